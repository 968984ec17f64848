/- Walk of package table: Of. -/
import Derived.Test.YteaaapdjplbljaaGreatProg
import Derived.Test.YteaaapdjplbljaaGreatLw33
import Derived.Test.YteaaapdjplbljaaGreatLw34
import Derived.Test.YteaaapdjplbljaaGreatLw31
import Derived.Test.YteaaapdjplbljaaGreatLw08
import Derived.Deep.Cut
import Derived.Deep.CutRange
set_option linter.unusedVariables false
set_option linter.unusedSimpArgs false
set_option linter.unnecessarySimpa false
namespace Go.Proofs.YteaaapdjplbljaaGreat
open Go Go.Proofs Go.RowKit Go.Shelf Go.Proofs.YteaaapdjplbljaaGreat.Hp Go.Proofs.YteaaapdjplbljaaGreat.Ch
theorem elem_ent:Elem Tryz.prog 206 (.agg #[.int .i64 0,.int .u64 0]) 2 16:=⟨by kernel_rfl,rfl,by decide⟩
theorem elem_row:Elem Tryz.prog 60 (.slice none 0 0) 1 24:=⟨by kernel_rfl,rfl,by decide⟩
theorem cells2_new (W:World) (x y:Value) (T:TypeId):∀(j:Nat) (u:Value),[x,y][j]? =some u→(W.alloc (Obj.cells #[x,y] T)).cell? ((⟨W.heap.size,0,none⟩:Addr).add j)=some u:=by
 intro j u hu
 match j with
 |0=>cases hu;go_simp
 |1=>cases hu;go_simp
 |j+2=>simp at hu
theorem ones2 (a b:Int):∀u∈[Value.int .i64 a,.int .u64 b],u.oneCell'=true:=by
 intro u hu
 simp at hu
 rcases hu with rfl|rfl<;>rfl
structure PhM (w wr:World) (mb c:Nat) (F:Int→Value) (B:Int→List (Nat×Int)):Prop where
 bu:BuW wr mb w.heap.size c F B
 cnt:∀u,(B u).length≤c
 bel:Below w.heap.size w wr
 ge:w.heap.size≤mb
theorem PhM.go {w wr W:World} {mb c:Nat} {F:Int→Value} {B:Int→List (Nat×Int)} (h:PhM w wr mb c F B) (hb:Below wr.heap.size wr W):PhM w W mb c F B:=⟨h.bu.go hb,h.cnt,h.bel.st hb,h.ge⟩
theorem PhM.mono {w wr:World} {mb c c':Nat} {F:Int→Value} {B:Int→List (Nat×Int)} (h:PhM w wr mb c F B) (hc:c≤c'):PhM w wr mb c' F B:=⟨⟨h.bu.map.mono hc,h.bu.row,h.bu.far,h.bu.two⟩,fun u=>Nat.le_trans (h.cnt u) hc,h.bel,h.ge⟩
theorem PhM.put {w W W1 W2:World} {mb c:Nat} {F:Int→Value} {B:Int→List (Nat×Int)} {u:Int} {v':Value} {x:Nat×Int} (h:PhM w W mb c F B) (hu:In6 u)
  (hg:W.grownBy W1 (F u).ownBlock) (hr:W1.ownsRow w.heap.size 206 2 v' ((B u).length+1) (flatE (B u)++[.int .i64 (x.1:Int),.int .u64 x.2]))
  (hv:∀k,v'.ownBlock=some k→(F u).ownBlock=some k∨W.heap.size≤k) (hm:MapV W2 mb (c+1) (updB F u v')) (ho:OffX (· =mb) W1 W2):PhM w W2 mb (c+1) (updB F u v') (fun y=>if y=u then B u++[x] else B y):=
 ⟨h.bu.put hu hg hr hv hm ho,fun y=>by
  by_cases e:y=u
  ·subst e
   simp only [if_true,List.length_append,List.length_cons,List.length_nil]
   have:=h.cnt y
   omega
  ·simp only [if_neg e]
   have:=h.cnt y
   omega,
  (h.bel.grown hg h.bel.size (fun k hk=>((h.bu.row u hu).lt k hk).1)).trans (ho.below (Nat.le_trans h.bel.size hg.size) (fun k hk=>by have e:k=mb:=hk;have:=h.ge;omega)),h.ge⟩
theorem PhM.step {w W W1:World} {mb c g cap:Nat} {F:Int→Value} {B:Int→List (Nat×Int)} {u:Int} {x:Nat×Int} (h:PhM w W mb c F B) (hu:In6 u) (hc:c<1000000000000000000)
  (hg:W.grownBy W1 (F u).ownBlock) (hr:W1.ownsRow w.heap.size 206 2 (.slice (some ⟨g,0,none⟩) ((B u).length+1) cap) ((B u).length+1) (flatE (B u)++[.int .i64 (x.1:Int),.int .u64 x.2]))
  (hat:(F u).ownBlock=some g∨g=W.heap.size):
  ∃W2,(Instr.mapUpdate 203 (.map (some mb)) (.int .i64 u) (.slice (some ⟨g,0,none⟩) ((B u).length+1) cap)).run Tryz.prog W1=.ok () W2∧
   PhM w W2 mb (c+1) (updB F u (.slice (some ⟨g,0,none⟩) ((B u).length+1) cap)) (fun y=>if y=u then B u++[x] else B y)∧(∀b,b<W.heap.size→b≠mb→(F u).ownBlock≠some b→W2.heap[b]? =W.heap[b]?)∧W.heap.size≤W2.heap.size∧(F u).ownBlock≠some mb:=by
 have hm1:MapV W1 mb c F:=h.bu.map.eq (hg.block mb h.bu.map.lt (fun e=>h.bu.far u hu e.symm))
 obtain ⟨W2,h1,h2,h3⟩:=hm1.put hc (.slice (some ⟨g,0,none⟩) ((B u).length+1) cap) hu
 refine ⟨W2,h1,h.put hu hg hr (fun k hk=>?_) h2 h3,fun b hb hbm hbf=>?_,Nat.le_trans hg.size h3.size,h.bu.far u hu⟩
 ·have e:g=k:=by simpa [Value.ownBlock] using hk
  subst e
  exact hat.imp_right (fun e=>by omega)
 ·rw [h3.block b (Nat.lt_of_lt_of_le hb hg.size) hbm,hg.block b hb (fun e=>hbf e.symm)]
def FarB (b:Option Nat) (mb:Nat) (F:Int→Value):Prop:=∀x,b=some x→x≠mb∧∀u,In6 u→(F u).ownBlock≠some x
theorem FarB.upd {b:Option Nat} {mb g n cap z:Nat} {F:Int→Value} {u:Int} (h:FarB b mb F) (hb:∀x,b=some x→x<z) (hu:In6 u) (hat:(F u).ownBlock=some g∨g=z):FarB b mb (updB F u (.slice (some ⟨g,0,none⟩) n cap)):=by
 intro x hx
 obtain ⟨h1,h2⟩:=h x hx
 refine ⟨h1,fun y hy=>?_⟩
 unfold updB
 by_cases e:y=u
 ·rw [if_pos e]
  intro e2
  have e3:g=x:=by simpa [Value.ownBlock] using e2
  subst e3
  rcases hat with k|k
  ·exact h2 u hu k
  ·have:=hb g hx;omega
 ·rw [if_neg e]
  exact h2 y hy
theorem Cel.keep {W W':World} {ao:Option Addr} {xs:List Value} (h:Cel W ao xs) (he:∀b o,ao=some ⟨b,o,none⟩→b<W.heap.size→W'.heap[b]? =W.heap[b]?):Cel W' ao xs:=by
 intro i u hu
 obtain ⟨b,o,e,hc⟩:=h i u hu
 exact ⟨b,o,e,(World.cell?_of_block (a:=⟨b,o+i,none⟩) (he b o e (World.block_lt_of_cell? _ _ hc))).trans hc⟩
structure TabM (wr:World) (base mb:Nat) (F:Int→Value) (v6:Value) (m:Nat) (rows:List (Nat×List Int)):Prop where
 own:wr.ownsRow base 60 1 v6 rows.length (rows.map fun p=>.slice (some ⟨p.1,0,none⟩) m m)
 row:∀p∈rows,Cel wr (some ⟨p.1,0,none⟩) (p.2.map encW)∧p.1<wr.heap.size∧v6.ownBlock≠some p.1
 far:FarB v6.ownBlock mb F
theorem TabM.go {wr W:World} {base mb:Nat} {F:Int→Value} {v6:Value} {m:Nat} {rows:List (Nat×List Int)} (h:TabM wr base mb F v6 m rows) (hb:Below wr.heap.size wr W):TabM W base mb F v6 m rows:=
 ⟨hp_owns_go h.own hb,fun p hp=>⟨(h.row p hp).1.go hb,Nat.lt_of_lt_of_le (h.row p hp).2.1 hb.size,(h.row p hp).2.2⟩,h.far⟩
theorem TabM.app {w wr W1:World} {mb c g cap m D:Nat} {F:Int→Value} {B:Int→List (Nat×Int)} {v6:Value} {rows:List (Nat×List Int)} {row:List Int} (h:TabM wr w.heap.size mb F v6 m rows) (hp:PhM w wr mb c F B)
  (hg:wr.grownBy W1 v6.ownBlock) (hr:W1.ownsRow w.heap.size 60 1 (.slice (some ⟨g,0,none⟩) (rows.length+1) cap) (rows.length+1) ((rows.map fun p=>.slice (some ⟨p.1,0,none⟩) m m)++[.slice (some ⟨D,0,none⟩) m m]))
  (hat:v6.ownBlock=some g∨g=wr.heap.size) (hD:Cel wr (some ⟨D,0,none⟩) (row.map encW)) (hDz:D<wr.heap.size) (hD6:v6.ownBlock≠some D):
  TabM W1 w.heap.size mb F (.slice (some ⟨g,0,none⟩) (rows.length+1) cap) m (rows++[(D,row)])∧PhM w W1 mb c F B:=by
 have hk:∀b,b<wr.heap.size→v6.ownBlock≠some b→W1.heap[b]? =wr.heap[b]?:=fun b hb hn=>hg.block b hb (fun e=>hn e.symm)
 have hgn:∀b,b<wr.heap.size→v6.ownBlock≠some b→(Value.slice (some ⟨g,0,none⟩) (rows.length+1) cap).ownBlock≠some b:=by
  intro b hb hn e
  have e2:g=b:=by simpa [Value.ownBlock] using e
  subst e2
  rcases hat with k|k
  ·exact hn k
  ·omega
 refine ⟨⟨?_,?_,?_⟩,?_⟩
 ·rw [List.length_append,List.map_append]
  exact hr
 ·intro p hp
  rcases List.mem_append.1 hp with hp|hp
  ·obtain ⟨h1,h2,h3⟩:=h.row p hp
   exact ⟨h1.keep (fun b o e hb=>by cases e;exact hk _ h2 h3),Nat.lt_of_lt_of_le h2 hg.size,hgn _ h2 h3⟩
  ·obtain rfl:=List.mem_singleton.1 hp
   exact ⟨hD.keep (fun b o e hb=>by cases e;exact hk _ hDz hD6),Nat.lt_of_lt_of_le hDz hg.size,hgn _ hDz hD6⟩
 ·intro x hx
  have e2:g=x:=by simpa [Value.ownBlock] using hx
  subst e2
  rcases hat with k|k
  ·exact h.far _ k
  ·subst k
   exact ⟨by have:=hp.bu.map.lt;omega,fun u hu e=>by have:=((hp.bu.row u hu).lt _ e).2;omega⟩
 ·refine ⟨⟨hp.bu.map.eq (hk _ hp.bu.map.lt (fun e=>(h.far _ e).1 rfl)),fun u hu=>owns_same (hp.bu.row u hu) (fun k e hk2=>hk k hk2 (fun e2=>(h.far _ e2).2 u hu e)),hp.bu.far,hp.bu.two⟩,hp.cnt,?_,hp.ge⟩
  exact hp.bel.grown hg hp.bel.size (fun k hk2=>(h.own.lt k hk2).1)
theorem Cel.ent {w:World} {ao:Option Addr} {l:List (Nat×Int)} (h:Cel w ao (flatE l)) {i:Nat} (hi:i<l.length):
  ∃b o,ao=some ⟨b,o,none⟩∧w.cell? ⟨b,o+i*2,none⟩=some (.int .i64 (l[i].1:Int))∧w.cell? ⟨b,o+i*2+1,none⟩=some (.int .u64 l[i].2):=by
 obtain ⟨h1,h2⟩:=flatE_get hi
 rw [Nat.mul_comm] at h1 h2
 obtain ⟨b,o,e,c1⟩:=h _ _ h1
 obtain ⟨b',o',e',c2⟩:=h _ _ h2
 rw [e] at e'
 cases e'
 exact ⟨b,o,e,c1,by rw [Nat.add_assoc];exact c2⟩
def OfPost (n:Nat) (es:List EdgeD) (fr tl:List Int) (w:World) (e:Ending) (w':World):Prop:=
 ∃(ao:Option Addr) (cap:Nat) (rows:List (Nat×List Int)),e=.returned (.tuple #[.slice ao fr.length cap,.int .i64 0])∧rows.length=fr.length∧Cel w' ao (rows.map fun p=>.slice (some ⟨p.1,0,none⟩) tl.length tl.length)∧
  (∀(i:Nat) (p:Nat×List Int) (s:Int),rows[i]? =some p→fr[i]? =some s→Cel w' (some ⟨p.1,0,none⟩) (p.2.map encW)∧TabRow es s tl p.2)∧Below w.heap.size w w'
set_option maxRecDepth 100000 in
set_option maxHeartbeats 4000000 in
theorem of_any (hb n:Nat) (es:List EdgeD) (R:List Int) (S:List SC) (ro:List Int) (fr tl:List Int) (fo too:Option Addr) (fc tc:Nat) (w:World) (h:BH w hb n es R S ro) (hf:Cel w fo (fr.map encI)) (ht:Cel w too (tl.map encI)) (hfl:fr.length≤60) (htl:tl.length≤60) (hfn:∀v∈fr,nodeN n v) (htn:∀v∈tl,nodeN n v):
  Calls Tryz.prog 65 #[.pointer (some ⟨hb,0,none⟩),.slice fo fr.length fc,.slice too tl.length tc] w (OfPost n es fr tl w):=by
 have hmm:=@run_makeMap Tryz.prog
 have HCC:=Lib.hid (fun W bk h0 h1 (hz:Below w.heap.size w W)=>Concat2_any bk fo too fc tc 2 fr tl W (by omega) (by omega) h0 h1 (hf.go hz) (ht.go hz))
 have hno:((fr++tl).any (outB n))=false:=outB_no.2 (fun v hv=>by rcases List.mem_append.1 hv with k|k;exact hfn v k;exact htn v k)
 have HRT:=Lib.hid (fun ao cap W (hz:Below w.heap.size w W) (hc:Cel W ao ((fr++tl).map encI))=>tright_any hb n es R S _ _ ao cap (fr++tl) W (h.mem.go hz) (by simp;omega) hc)
 obtain ⟨al,hal⟩:∃al,al=fr++tl:=⟨_,rfl⟩
 rw [←hal] at HRT HCC hno
 rw [hno] at HRT
 simp only [Bool.false_eq_true,if_false] at HRT
 have HH:=Lib.hid h
 have HF:=Lib.hid hf
 have HT:=Lib.hid ht
 have HFN:=Lib.hid hfn
 have HTN:=Lib.hid htn
 have hfl2:(fr.length:Int)≤60:=by omega
 have htl2:(tl.length:Int)≤60:=by omega
 have hfl0:(0:Int)≤(fr.length:Int):=by omega
 have htl0:(0:Int)≤(tl.length:Int):=by omega
 have HL:=Lib.hid (And.intro hfl htl)
 clear h hf ht hfl htl hfn htn hno hal
 go_enter Tryz.func65,Tryz.ntmps65
 go_upto_region 4 with (first
  |(go_at_call 117;refine (HCC.out _ _ (by go_simp) (by go_simp) (Below.of_al _ _)).mono ?_;rintro e w1 ⟨ao,cap,rfl,hc1,hb1,-⟩;(have HC1:=Lib.hid hc1);(have HB1:=Lib.hid ((Below.of_al w _).st hb1));clear hc1 hb1)
  |(go_at_call 122;refine (HRT.out _ _ _ HB1.out HC1.out).mono ?_;rintro e w2 ⟨rfl,hb2⟩;(have HB2:=Lib.hid (HB1.out.st hb2));clear hb2))
 have HP0:=Lib.hid (show PhM w (w2.alloc (.map #[] 0)) w2.heap.size 0 (fun _=>nilS) (fun _=>[]) from ⟨BuW.new w2 w.heap.size,fun _=>Nat.le_refl _,HB2.out.al _,HB2.out.size⟩)
 have HMB:=Lib.hid HB2.out.size
 clear HB1 HC1 HCC HRT HB2
 go_wp2
 generalize w2.heap.size=mb at*
 go_loopg [37] tl.length (fun gg v37 wr=>∃(k:Nat) (F:Int→Value) (B:Int→List (Nat×Int)) (ls:List (List LB)),k≤tl.length∧tl.length-k≤gg∧v37=.int .i64 (k:Int)∧Aside (ls.length=k)∧Aside (PhM w wr mb (12*k) F B)∧Aside (SpsOK es S ro n tl ls∧BuS ls B))
 case atStart=>exact ⟨0,_,_,[],Nat.zero_le _,by omega,rfl,rfl,HP0.out,⟨fun j l h=>by simp at h,BuS.nil⟩⟩
 case round=>
  obtain ⟨k,F,B,ls,hk,hgg,rfl,HLN,HP,HSB⟩:=hrel
  by_cases hlt:k<tl.length
  ·have hlt3:(k:Int)<(tl.length:Int):=by omega
   have hk0:(0:Int)≤(k:Int):=by omega
   obtain ⟨tb,tof,hao,y0⟩:=(HT.out.below HP.out.bel (Nat.le_refl _)).at hlt
   obtain ⟨t,htt⟩:∃t:Nat,tl[k]=(t:Int):=⟨tl[k].toNat,by have:=(HTN.out _ (List.getElem_mem hlt)).1;omega⟩
   have htn:t<n:=by have:=(HTN.out _ (List.getElem_mem hlt)).2;omega
   have HTK:=Lib.hid (show tl[k]? =some (t:Int) by rw [List.getElem?_eq_getElem hlt,htt])
   rw [htt] at y0
   subst hao
   clear htt
   have HSP:=Lib.hid (space_any hb n es R S ro t true wr (HH.out.go HP.out.bel).mem HH.out.ok HH.out.le htn)
   have HTN2:=Lib.hid htn
   unfold SpacePost at HSP
   go_wp2_with (go_at_call 123;refine HSP.out.mono ?_;rintro e w3 ⟨la,lc,l,rfl,k1,k2,k3,k4,k5,k6⟩;(have HP3:=Lib.hid (HP.out.go k2));(have HC3:=Lib.hid k1);(have HS3:=Lib.hid k3);(have HL3:=Lib.hid k4);(have HF3:=Lib.hid (show FarB (Value.slice la l.length lc).ownBlock mb F from fun x hx=>by have hxx:=k6.lt x hx;exact ⟨by have:=HP.out.bu.map.lt;omega,fun u hu e=>by have:=((HP.out.bu.row u hu).lt x e).2;omega⟩));clear k1 k2 k3 k4 k5 k6)
   have HLB:=Lib.hid (labsOK HH.out.ok HS3.out HTN2.out HH.out.le)
   have hl12:(l.length:Int)≤12:=by have:=HL3.out;have:=HH.out.le;omega
   have hl0:(0:Int)≤(l.length:Int):=by omega
   have HBO:=Lib.hid (HSB.out.2.open)
   have HSQ:=Lib.hid HSB.out.1
   have HKK:=Lib.hid hk
   clear HSB HP HSP HL3
   go_loopg [50] l.length (fun g2 v50 wr=>∃(i:Nat) (F:Int→Value) (B:Int→List (Nat×Int)),i≤l.length∧l.length-i≤g2∧v50=.int .i64 (i:Int)∧Aside (PhM w wr mb (12*k+i) F B)∧Aside (BuS (ls++[l.take i]) B)∧Aside (Cel wr la (flatB l))∧Aside (FarB (Value.slice la l.length lc).ownBlock mb F)∧Aside (w3.heap.size≤wr.heap.size))
   case atStart=>exact ⟨0,F,B,Nat.zero_le _,by omega,rfl,HP3.out,HBO.out,HC3.out,HF3.out,Nat.le_refl _⟩
   case round=>
    obtain ⟨i,F,B,hi,hg2,rfl,HPQ,HBQ,HCQ,HFQ,HZQ⟩:=hrel
    by_cases hlt2:i<l.length
    ·have hi0:(0:Int)≤(i:Int):=by omega
     have hlt4:(i:Int)<(l.length:Int):=by omega
     obtain ⟨lb,lo,rfl,y0,y1,y2⟩:=HCQ.out.lab hlt2
     obtain ⟨n0,d0,d1⟩:=HLB.out l[i] (List.getElem_mem hlt2)
     have h6:In6 l[i].v:=in6_of n0 HH.out.le
     have HTI:=Lib.hid (show l.take (i+1)=l.take i++[l[i]] from List.take_succ_eq_append_getElem hlt2)
     have hlbq:lb<wr.heap.size:=World.block_lt_of_cell? _ _ y0
     generalize l[i]=a at*
     obtain ⟨av,ad,ab⟩:=a
     simp only at y0 y1 y2 n0 d0 d1 h6
     go_upto_region 12 with (fail)
     obtain ⟨W5,hW5⟩:∃W5,W5=wr.alloc (Obj.cells #[.int .i64 av,.int .u64 ad,.int .i64 ab] 150):=⟨_,rfl⟩
     rw [←hW5]
     have hb5:Below wr.heap.size wr W5:=by rw [hW5];exact Below.of_al _ _
     have hz5:W5.heap.size=wr.heap.size+1:=by rw [hW5];simp
     have a0:W5.cell? ⟨wr.heap.size,0,none⟩=some (.int .i64 av):=by rw [hW5];go_simp
     have a1:W5.cell? ⟨wr.heap.size,1,none⟩=some (.int .u64 ad):=by rw [hW5];go_simp
     have HP5:=Lib.hid (HPQ.out.go hb5)
     have HC5:=Lib.hid (HCQ.out.go hb5)
     have f0:=fun o=>cell_later (Below.of_al W5 o) a0
     have f1:=fun o=>cell_later (Below.of_al W5 o) a1
     have hL0:=(show MapV W5.drew mb _ F from HP5.out.bu.map.go (Below.of_dr W5 1)).look h6
     have hL1:=fun o=>(show MapV (W5.alloc o).drew mb _ F from HP5.out.bu.map.go (Below.of_al W5 o).drew).look h6
     have hR5:=HP5.out.bu.row av h6
     have hcn:=HP5.out.cnt av
     have hge5:=HP5.out.bel.size
     have hfb:=fun k hk=>(hR5.lt k hk)
     have HR5:=Lib.hid hR5
     have HN:=Lib.hid (And.intro hcn (And.intro hge5 (And.intro hlbq hz5)))
     have H6:=Lib.hid h6
     have HNE:=Lib.hid (show (F av).ownBlock≠some wr.heap.size from fun e=>by
      have:=((HPQ.out.bu.row av h6).lt _ e).2
      omega)
     clear hR5 hcn hge5 hfb hW5 hb5 hz5 n0 hlbq h6
     obtain ⟨fv,hfv⟩:∃fv,fv=F av:=⟨_,rfl⟩
     rw [←hfv] at HR5 HNE
     simp only [←hfv] at hL0 hL1
     have HFV:=Lib.hid hfv
     have A0:=Lib.hid a0
     have hck:12*k+i<1000000000000000000:=by omega
     have HCK:=Lib.hid hck
     clear hfv hck
     go_region_law (refine step_appC rfl (.tmp 60) (.tmp 65) 204 rfl w.heap.size 206 _ 2 16 elem_ent Tryz.underlying204 fv (B av).length (flatE (B av)) ⟨W5.heap.size,0,none⟩ 1 1 [.int .i64 (k:Int),.int .u64 ad] rfl rfl (World.ownsRow.alloc (owns_dr HR5.out 1) _) (cells2_new _ _ _ _) (ones2 _ _) ⟨rfl,by decide,(by have:=HN.out;omega),(by have:=HN.out;omega),(by have:=HN.out;simp;omega)⟩ ?_;intro g6 cap6 w6 hown hgr hbl hat;(have hb6:Below W5.heap.size W5 (W5.alloc (Obj.cells #[.int .i64 (k:Int),.int .u64 ad] 206)).drew:=(Below.of_al _ _).drew);(have p6:=hgr.cell (cell_later hb6 A0.out) (fun e=>HNE.out e.symm));rw [HFV.out] at hgr hat;(obtain ⟨w7,hr7,hp7,hk7,hz7,hnm⟩:=(HP5.out.go hb6).step (x:=(k,ad)) H6.out HCK.out hgr hown hat);(have HP7:=Lib.hid hp7);(have HK7:=Lib.hid (And.intro hk7 (And.intro hz7 (And.intro hnm hat))));(have HB6:=Lib.hid hb6);clear hp7 hk7 hz7 hnm hown hgr hbl hat hb6)
     all_goals
      go_wp2
      go_roundg (l.length-(i+1))
      case measure=>omega
      case rel=>exact ⟨i+1,_,_,by omega,Nat.le_refl _,by go_num,HP7.out,(by rw [HTI.out];have h9:=HBQ.out.add (x:=⟨av,ad,ab⟩);rw [HLN.out] at h9;exact h9),(HC5.out.go HB6.out).keep (fun b o e hbz=>by cases e;exact HK7.out.1 _ hbz (HFQ.out _ rfl).1 ((HFQ.out _ rfl).2 _ H6.out)),HFQ.out.upd (fun x hx=>by cases hx;have h8:=HN.out;have h9:=HB6.out.size;show lb<_;omega) H6.out HK7.out.2.2.2,Nat.le_trans HZQ.out (by have h8:=HN.out;have h9:=HB6.out.size;have h10:=HK7.out.2.1;omega)⟩
    ·obtain rfl:i=l.length:=by omega
     have HB7:=Lib.hid (show BuS (ls++[l]) B by have h9:=HBQ.out;rw [List.take_length] at h9;exact h9)
     have HP7:=Lib.hid (HPQ.out.mono (show 12*k+l.length≤12*(k+1) by omega))
     clear HBQ HPQ
     go_wp2
     go_roundg (tl.length-(k+1))
     case measure=>omega
     case rel=>exact ⟨k+1,_,_,ls++[l],by omega,Nat.le_refl _,by go_num,(by rw [List.length_append,HLN.out];rfl),HP7.out,⟨HSQ.out.add HLN.out HTK.out HTN2.out HS3.out,HB7.out⟩⟩
  ·obtain rfl:k=tl.length:=by omega
   have HC0:=Lib.hid (show 12*tl.length≤720 by have:=HL.out.2;omega)
   generalize 12*tl.length=cc at*
   have hC0:=HC0.out
   clear HP0 hgg hk hlt
   have HLA:=Lib.hid (show ∀l∈ls,∀b∈l,nodeN n b.v∧0≤b.d∧b.d≤211106232532992 from fun l hl=>by
    obtain ⟨j,hj,rfl⟩:=List.getElem_of_mem hl
    obtain ⟨t,h1,h2,h3⟩:=HSB.out.1 j _ (List.getElem?_eq_getElem hj)
    exact labsOK HH.out.ok h3 h2 HH.out.le)
   have hR0:TabM wr w.heap.size mb F (.slice none 0 0) tl.length []:=⟨World.ownsRow_nil _ _ _ _,(fun p hp=>by cases hp),(fun x hx=>by cases hx)⟩
   have HR0:=Lib.hid hR0
   clear hR0 hC0
   go_wp2
   have hwr0:True:=trivial
   go_loopg [71,6] fr.length (fun gg v71 v6 wr=>∃(k:Nat) (rows:List (Nat×List Int)),k≤fr.length∧fr.length-k≤gg∧v71=.int .i64 (k:Int)∧Aside (rows.length=k)∧Aside (TabM wr w.heap.size mb F v6 tl.length rows)∧Aside (PhM w wr mb cc F B)∧Aside (∀(i:Nat) (p:Nat×List Int) (s:Int),rows[i]? =some p→fr[i]? =some s→TabRow es s tl p.2))
   case atStart=>exact ⟨0,[],Nat.zero_le _,by omega,rfl,rfl,HR0.out,HP.out,fun i p s hi=>by simp at hi⟩
   case round=>
    obtain ⟨k,rows,hk,hgg,rfl,HRL,HRM,HPM,HTB⟩:=hrel
    by_cases hlt:k<fr.length
    ·have hlt3:(k:Int)<(fr.length:Int):=by omega
     have hk0:(0:Int)≤(k:Int):=by omega
     obtain ⟨fb,fof,hao,y0⟩:=(HF.out.below HPM.out.bel (Nat.le_refl _)).at hlt
     obtain ⟨s,hss⟩:∃s:Nat,fr[k]=(s:Int):=⟨fr[k].toNat,by have:=(HFN.out _ (List.getElem_mem hlt)).1;omega⟩
     have hsn:s<n:=by have:=(HFN.out _ (List.getElem_mem hlt)).2;omega
     have HFK:=Lib.hid (show fr[k]? =some (s:Int) by rw [List.getElem?_eq_getElem hlt,hss])
     rw [hss] at y0
     subst hao
     obtain ⟨W4,hW4⟩:∃W4,W4=wr.alloc (Obj.cells #[.int .u64 4611686018427387904] 37):=⟨_,rfl⟩
     have hb4:Below wr.heap.size wr W4:=by rw [hW4];exact Below.of_al _ _
     have hz4:W4.heap.size=wr.heap.size+1:=by rw [hW4];simp
     have HRP:=Lib.hid (repeat_any wr.heap.size 0 1 tl.length 4611686018427387904 W4 (by have:=HL.out;omega) (by rw [hW4];go_simp))
     have HW4:=Lib.hid hW4
     have HB4:=Lib.hid hb4
     have HSN:=Lib.hid hsn
     have HSA:=Lib.hid (fun W (hz:Below w.heap.size w W)=>space_any hb n es R S ro s false W (HH.out.go hz).mem HH.out.ok HH.out.le hsn)
     unfold SpacePost at HSA
     have HK:=Lib.hid hk
     have HWZ:=Lib.hid (show wr.heap.size<W4.heap.size by omega)
     clear hss hW4 hb4 hz4 hsn hk
     generalize hD:W4.heap.size=D at HRP HWZ
     have HD:=Lib.hid hD
     clear hD
     go_upto_region 20 with (first
      |(go_at_call 124;rw [←HW4.out];refine HRP.out.mono ?_;rintro e w5 ⟨rfl,ho5,hb5⟩;(have HO5:=Lib.hid ho5);(have HB5:=Lib.hid (HB4.out.st (show Below W4.heap.size W4 w5 by rw [HD.out];exact hb5)));(have HD5:=Lib.hid (show D<w5.heap.size from (ho5.lt D rfl).2));clear ho5 hb5)
      |(go_at_call 123;refine (HSA.out _ (HPM.out.bel.st HB5.out)).mono ?_;rintro e w6 ⟨la,lc,l,rfl,k1,k2,k3,k4,k5,k6⟩;(have HB6:=Lib.hid (HB5.out.st k2));(have HC6:=Lib.hid k1);(have HS6:=Lib.hid k3);(have HL6:=Lib.hid k4);(have HO6:=Lib.hid (hp_owns_go HO5.out k2));(have HF6:=Lib.hid (show ∀x,la=some x→x.block≠D from fun x hx=>by subst hx;have h9:=k6.lt x.block rfl;have h8:=HD5.out;omega));(have HD6:=Lib.hid (show D<w6.heap.size from Nat.lt_of_lt_of_le HD5.out k2.size));clear k1 k2 k3 k4 k5 k6))
     have HLB:=Lib.hid (labsOK HH.out.ok HS6.out HSN.out HH.out.le)
     have hl12:(l.length:Int)≤12:=by have:=HL6.out;have:=HH.out.le;omega
     have hl0:(0:Int)≤(l.length:Int):=by omega
     have HMR0:=Lib.hid ((MinR.start tl.length).cong (T':=SumT l B 0 0) (fun k x=>SumT.none.symm))
     clear HO5 HB5 HD5 HRP HSA HW4 HB4 HD
     obtain ⟨wk,hwk⟩:∃wk,wk=wr:=⟨_,rfl⟩
     rw [←hwk] at HRM HPM HWZ HB6
     clear hwk
     go_wp2
     go_loopg [87] l.length (fun g2 v87 wr=>∃(i:Nat) (row:List Int),i≤l.length∧l.length-i≤g2∧v87=.int .i64 (i:Int)∧Aside (OffX (· =D) w6 wr)∧Aside (wr.ownsRow D 37 1 (.slice (some ⟨D,0,none⟩) tl.length tl.length) tl.length (row.map encW))∧Aside (MinR tl.length row (SumT l B i 0)))
     case atStart=>exact ⟨0,_,Nat.zero_le _,by omega,rfl,OffX.refl _ _,HO6.out,HMR0.out⟩
     case round=>
      obtain ⟨i,row,hi,hg2,rfl,HOX,HOW,HMR⟩:=hrel
      by_cases hlt2:i<l.length
      ·have hi0:(0:Int)≤(i:Int):=by omega
       have hlt4:(i:Int)<(l.length:Int):=by omega
       obtain ⟨lb,lo,hla,y0,y1,y2⟩:=(HC6.out.keep (W':=wr) (fun b o e hbz=>HOX.out.block b hbz (HF6.out _ e))).lab hlt2
       obtain ⟨n0,d0,d1⟩:=HLB.out l[i] (List.getElem_mem hlt2)
       have h6:In6 l[i].v:=in6_of n0 HH.out.le
       subst hla
       have hlbx:lb<wr.heap.size:=World.block_lt_of_cell? _ _ y0
       have HSM:=Lib.hid (fun k x=>@SumT.next l B i k x hlt2)
       have HSO:=Lib.hid (fun j k x (hj:j<(B l[i].v).length)=>@SumT.one l B i j k x hlt2 hj)
       have hR6:=HPM.out.bu.row l[i].v h6
       obtain ⟨eo,ec,hfe,hce⟩:=Cel.of_owns hR6
       have hcn:=HPM.out.cnt l[i].v
       have HBI:=Lib.hid (fun (e:Nat×Int) (he:e∈B l[i].v)=>HSB.out.2.in (C:=fun b=>nodeN n b.v∧0≤b.d∧b.d≤211106232532992) HLA.out (u:=l[i].v) (e:=e) he)
       have HEX:=Lib.hid (show ∀x,eo=some x→x.block<wk.heap.size from fun x hx=>(hR6.lt x.block (by rw [hfe,hx];rfl)).2)
       have HCE:=Lib.hid hce
       have hmp:=HPM.out.bu.map
       clear hR6 hce n0
       generalize B l[i].v=bl at*
       have hC0:=HC0.out
       have hbl:(bl.length:Int)≤720:=by omega
       have hbl0:(0:Int)≤(bl.length:Int):=by omega
       obtain ⟨W7,hW7⟩:∃W7,W7=wr.alloc (Obj.cells #[.int .i64 l[i].v,.int .u64 l[i].d,.int .i64 l[i].b] 150):=⟨_,rfl⟩
       have hb7:Below wr.heap.size wr W7:=by rw [hW7];exact Below.of_al _ _
       have a0:W7.cell? ⟨wr.heap.size,0,none⟩=some (.int .i64 l[i].v):=by rw [hW7];go_simp
       have a1:W7.cell? ⟨wr.heap.size,1,none⟩=some (.int .u64 l[i].d):=by rw [hW7];go_simp
       have HW7:=Lib.hid hW7
       have HBK7:=Lib.hid (show Below wk.heap.size wk W7 from ((HB6.out).trans (HOX.out.below HB6.out.size (fun k hk=>by have e:k=D:=hk;have:=HWZ.out;omega))).trans (hb7.mono (by have h1:=HB6.out.size;have h2:=HOX.out.size;omega)))
       have HOX7:=Lib.hid (HOX.out.trans (.of_below hb7))
       have HOW7:=Lib.hid (hp_owns_go HOW.out hb7)
       have HLBX:=Lib.hid (show wr.heap.size≠D by have h1:=HD6.out;have h2:=HOX.out.size;omega)
       have hL0:=(hmp.go HBK7.out).look h6
       rw [hfe] at hL0
       have HA1:=Lib.hid a1
       generalize l[i].v=av at*
       generalize l[i].d=ad at*
       generalize l[i].b=ab at*
       obtain ⟨lz,hlz⟩:∃lz,lz=wr.heap.size:=⟨_,rfl⟩
       clear hW7 hb7 hmp hfe hlbx h6 hcn HOX HOW
       go_upto_region 23 with (fail)
       rw [←HW7.out]
       go_wp2
       go_loopg [96] bl.length (fun g3 v96 wr=>∃(j:Nat) (row:List Int),j≤bl.length∧bl.length-j≤g3∧v96=.int .i64 (j:Int)∧Aside (OffX (· =D) W7 wr)∧Aside (wr.ownsRow D 37 1 (.slice (some ⟨D,0,none⟩) tl.length tl.length) tl.length (row.map encW))∧Aside (MinR tl.length row (SumT l B i j)))
       case atStart=>exact ⟨0,row,Nat.zero_le _,by omega,rfl,OffX.refl _ _,HOW7.out,HMR.out⟩
       case round=>
        obtain ⟨j,row,hj,hg3,rfl,HOX,HOW,HMR⟩:=hrel
        by_cases hlt5:j<bl.length
        ·have hj0:(0:Int)≤(j:Int):=by omega
         have hlt6:(j:Int)<(bl.length:Int):=by omega
         obtain ⟨eb,eof,heo,z0,z1⟩:=((HCE.out.go HBK7.out).keep (W':=wr) (fun b o e hbz=>HOX.out.block b hbz (fun h=>by have h8:b<wk.heap.size:=HEX.out _ e;have h9:b=D:=h;have:=HWZ.out;omega))).ent hlt5
         obtain ⟨hkm,bq,⟨-,q0,q1⟩,-,hq⟩:=HBI.out bl[j] (List.getElem_mem hlt5)
         rw [hq] at q0 q1
         rw [HLN.out] at hkm
         have HSJ:=Lib.hid (fun k x=>HSO.out j k x hlt5)
         subst heo
         clear hq
         generalize bl[j]=e at*
         obtain ⟨ek,ed⟩:=e
         simp only at z0 z1 hkm q0 q1 HSJ
         go_upto_region 26 with (fail)
         obtain ⟨W8,hW8⟩:∃W8,W8=wr.alloc (Obj.cells #[.int .i64 (ek:Int),.int .u64 ed] 206):=⟨_,rfl⟩
         rw [←hW8]
         have hb8:Below wr.heap.size wr W8:=by rw [hW8];exact Below.of_al _ _
         have b0:W8.cell? ⟨wr.heap.size,0,none⟩=some (.int .i64 (ek:Int)):=by rw [hW8];go_simp
         have b1:W8.cell? ⟨wr.heap.size,1,none⟩=some (.int .u64 ed):=by rw [hW8];go_simp
         have c1:=cell_later hb8 (HOX.out.cell HA1.out (fun e=>HLBX.out e))
         have HOW8:=Lib.hid (hp_owns_go HOW.out hb8)
         have HOX8:=Lib.hid (HOX.out.trans (.of_below hb8))
         have hrl:=HMR.out.len
         have x8:W8.cell? ⟨D,ek,none⟩=some (.int .u64 (gD row (ek:Int))):=by
          rw [HOW8.out.cellAt ek (by omega),List.getElem?_map]
          unfold gD
          simp [List.getD,show ek<row.length by omega,encW]
         have HX:=Lib.hid (And.intro (HMR.out.le ek hkm) (HMR.out.put hkm (ad+ed)))
         have f0:=fun p=>cell_ext p b0
         have f1:=fun p=>cell_ext p b1
         have f2:=fun p=>cell_ext p c1
         have f3:=fun p=>cell_ext p x8
         have hwr:IntKind.u64.wrap (ad+ed)=ad+ed:=by rw [IntKind.wrap_u64];omega
         have hk6:(ek:Int)<(tl.length:Int):=by omega
         have hk7:(0:Int)≤(ek:Int):=by omega
         have HX8:=Lib.hid x8
         have HKM:=Lib.hid hkm
         clear b0 b1 c1 x8 hb8 hW8 z0 z1 HOX HOW hrl hkm
         generalize gD row (ek:Int)=x at*
         refine wp_region_ext_tail 15 (by kernel_rfl) (by kernel_rfl) ?_
         simp only [List.take_succ_cons,List.take_zero,List.drop_succ_cons,List.drop_zero]
         repeat (go_big_quiet_step (fail))
         refine wpQuiet_nil ?_
         rintro _ ⟨p9,rfl⟩
         have HB9:=Lib.hid (below_ext W8 p9)
         generalize ext W8 p9=w9 at HB9 ⊢
         have HOW9:=Lib.hid (hp_owns_go HOW8.out HB9.out)
         have t0:=cell_later HB9.out HX8.out
         have t1:=HOW9.out.frozenAt ek
         have hkm:=HKM.out
         clear f0 f1 f2 f3
         go_wp2
         go_roundg (bl.length-(j+1))
         case measure=>omega
         case rel=>exact ⟨j+1,row.set ek (min x (ad+ed)),by omega,Nat.le_refl _,by go_num,(HOX8.out.trans (.of_below HB9.out)).trans (.set _ rfl),(by rw [List.map_set];exact (HOW9.out.stored ek _).1),HX.out.2.cong (fun k x=>HSJ.out k x)⟩
        ·obtain rfl:j=bl.length:=by omega
         go_wp2
         go_roundg (l.length-(i+1))
         case measure=>omega
         case rel=>exact ⟨i+1,row,by omega,Nat.le_refl _,by go_num,HOX7.out.trans HOX.out,HOW.out,HMR.out.cong (fun k x=>HSM.out k x)⟩
      ·obtain rfl:i=l.length:=by omega
       have HTR:=Lib.hid (tab_row HH.out.ok HH.out.le HSN.out HS6.out HLN.out HSB.out.1 HSB.out.2 HMR.out)
       have HBW:=Lib.hid (show Below wk.heap.size wk wr from HB6.out.trans (HOX.out.below HB6.out.size (fun k hk=>by have e:k=D:=hk;have:=HWZ.out;omega)))
       obtain ⟨dq,dc,e9,hcd⟩:=Cel.of_owns HOW.out
       cases e9
       have HCD:=Lib.hid hcd
       have HRM2:=Lib.hid (HRM.out.go HBW.out)
       have HPM2:=Lib.hid (HPM.out.go HBW.out)
       have HDZ:=Lib.hid (show D<wr.heap.size from Nat.lt_of_lt_of_le HD6.out HOX.out.size)
       have HD7:=Lib.hid (show u6.ownBlock≠some D from fun e=>by have h8:=(HRM.out.own.lt D e).2;have:=HWZ.out;omega)
       have hrk:=HRL.out
       have hbs:=HPM2.out.bel.size
       have hrk2:rows.length≤60:=by have:=HL.out.1;have:=HK.out;omega
       have HNN:=Lib.hid (And.intro hrk2 hbs)
       clear hcd HRM HPM HMR HOX HOW hrk hbs hrk2
       go_upto_region 30 with (at_builtin;go_must (refine wpList_app w.heap.size 60 _ 1 24 elem_row Tryz.underlying121 u6 rows.length _ ⟨wr.heap.size,0,none⟩ 1 1 [.slice (some ⟨D,0,none⟩) tl.length tl.length] rfl rfl (World.ownsRow.alloc HRM2.out.own _) (cell_one_new _ _ _) (one_cells rfl) ⟨rfl,by decide,(by have:=HNN.out.1;omega),(by have:=HNN.out.1;omega),(by have:=HNN.out.2;simp;omega)⟩ ?_);intro g7 cap7 w7 hown hgr hbl hat hlt7;(have HT7:=Lib.hid ((HRM2.out.go (Below.of_al wr (Obj.cells #[.slice (some ⟨D,0,none⟩) tl.length tl.length] 60))).app (HPM2.out.go (Below.of_al wr _)) hgr hown hat (HCD.out.go (Below.of_al wr _)) (by have:=HDZ.out;simp;omega) HD7.out));clear hown hgr hbl hat hlt7)
       have HTB2:=Lib.hid (show ∀(i:Nat) (p:Nat×List Int) (s:Int),(rows++[(D,row)])[i]? =some p→fr[i]? =some s→TabRow es s tl p.2 from fun i p s' hi hs=>by
        rcases Nat.lt_trichotomy i rows.length with e|e|e
        ·rw [List.getElem?_append_left e] at hi
         exact HTB.out i p s' hi hs
        ·rw [e,List.getElem?_append_right (Nat.le_refl _),Nat.sub_self] at hi
         cases hi
         rw [e,HRL.out,HFK.out] at hs
         cases hs
         exact HTR.out
        ·rw [List.getElem?_eq_none (by simp;omega)] at hi
         cases hi)
       go_wp2
       go_roundg (fr.length-(k+1))
       case measure=>omega
       case rel=>exact ⟨k+1,rows++[(D,row)],by omega,Nat.le_refl _,by go_num,(by rw [List.length_append,HRL.out];rfl),HT7.out.1,HT7.out.2,HTB2.out⟩
    ·obtain rfl:k=fr.length:=by omega
     obtain ⟨ao6,cap6,e6,hc6⟩:=Cel.of_owns HRM.out.own
     rw [HRL.out] at e6
     subst e6
     have HC6:=Lib.hid hc6
     go_wp2
     refine bodyPost_ret (v:=.tuple #[.slice ao6 fr.length cap6,.int .i64 0]) (by simp [results,Tryz.results65,go_sem];try rfl) rfl ?_
     exact ⟨ao6,cap6,rows,rfl,HRL.out,HC6.out,fun i p s hi hs=>⟨(HRM.out.row p (List.mem_of_getElem? hi)).1,HTB.out i p s hi hs⟩,HPM.out.bel⟩
end Go.Proofs.YteaaapdjplbljaaGreat
