/- A hierarchy that is looked up, as it lies in memory, and its methods. A range over a function whose iterator only grows memory and reads blocks that the body keeps: what is asked of the iterator, and the law of the statement. -/
import Derived.Test.YtkdomobedfhhgaaGreatProg
import Derived.Test.YtkdomobedfhhgaaGreatQm25
import Derived.Test.YtkdomobedfhhgaaGreatQm04
set_option linter.unusedVariables false
set_option linter.unusedSimpArgs false
set_option linter.unnecessarySimpa false
section
namespace Go.Proofs.YtkdomobedfhhgaaGreat
open Go Go.Proofs Go.RowKit Go.Shelf Go.Proofs.YtkdomobedfhhgaaGreat.Hp Go.Proofs.YtkdomobedfhhgaaGreat.Ch
def RowsM (W:World) (v:Value) (n:Nat) (O:List (List Int)):Prop:=
 ∃(a:Option Addr) (c:Nat) (rows:List Value),v=.slice a n c∧rows.length=n∧Cel W a rows∧∀u,u<n→∃(a':Option Addr) (c':Nat),rows[u]? =some (.slice a' (O.getD u []).length c')∧Cel W a' ((O.getD u []).map encI)
structure HierM (W:World) (hb n:Nat) (es:List EdgeD) (R:List Int) (S:List SC) (O I:List (List Int)):Prop where
 c0:W.cell? ⟨hb,0,none⟩=some (.int .i64 (n:Int))
 c1:∃(a:Option Addr) (c:Nat),W.cell? ⟨hb,1,none⟩=some (.slice a es.length c)∧Cel W a (flat es)
 c2:∃(a:Option Addr) (c:Nat),W.cell? ⟨hb,2,none⟩=some (.slice a R.length c)∧Cel W a (R.map encI)
 c3:∃(a:Option Addr) (c:Nat),W.cell? ⟨hb,3,none⟩=some (.slice a S.length c)∧Cel W a (flatS S)
 c4:∃v,W.cell? ⟨hb,4,none⟩=some v∧RowsM W v n O
 c5:∃v,W.cell? ⟨hb,5,none⟩=some v∧RowsM W v n I
 rl:R.length=n
 small:n≤60000∧S.length≤1000000∧es.length≤1000000∧(∀r∈O,r.length≤1000000)∧∀r∈I,r.length≤1000000
section
variable {W W':World} {hb n:Nat} {es:List EdgeD} {R:List Int} {S:List SC} {O I:List (List Int)}
theorem RowsM.go {v:Value} (h:RowsM W v n O) (hb:Below W.heap.size W W'):RowsM W' v n O:=by
 obtain ⟨a,c,rows,e,hl,hc,hr⟩:=h
 exact ⟨a,c,rows,e,hl,hc.go hb,fun u hu=>let ⟨a',c',h1,h2⟩:=hr u hu;⟨a',c',h1,h2.go hb⟩⟩
theorem HierM.go (h:HierM W hb n es R S O I) (hz:Below W.heap.size W W'):HierM W' hb n es R S O I:=by
 obtain ⟨a1,b1,h1,k1⟩:=h.c1
 obtain ⟨a2,b2,h2,k2⟩:=h.c2
 obtain ⟨a3,b3,h3,k3⟩:=h.c3
 obtain ⟨a4,h4,k4⟩:=h.c4
 obtain ⟨a5,h5,k5⟩:=h.c5
 exact ⟨cell_later hz h.c0,⟨a1,b1,cell_later hz h1,k1.go hz⟩,⟨a2,b2,cell_later hz h2,k2.go hz⟩,⟨a3,b3,cell_later hz h3,k3.go hz⟩,⟨a4,cell_later hz h4,k4.go hz⟩,⟨a5,cell_later hz h5,k5.go hz⟩,h.rl,h.small⟩
end
theorem nodes_any (hb n:Nat) (es:List EdgeD) (R:List Int) (S:List SC) (O I:List (List Int)) (w:World) (h:HierM w hb n es R S O I):
  Calls Tryz.prog 76 #[.pointer (some ⟨hb,0,none⟩)] w fun e w'=>e=.returned (.int .i64 (n:Int))∧w=w':=by
 have c0:=h.c0
 clear h
 go_enter Tryz.func76,Tryz.ntmps76
 go_wp2
 go_ret
 exact ⟨rfl,rfl⟩
theorem nodes_nil (w:World):Calls Tryz.prog 76 #[.pointer none] w fun e w'=>e=.returned (.int .i64 0)∧w=w':=by
 go_enter Tryz.func76,Tryz.ntmps76
 go_wp2
 go_ret
 exact ⟨rfl,rfl⟩
theorem size_any (hb n:Nat) (es:List EdgeD) (R:List Int) (S:List SC) (O I:List (List Int)) (w:World) (h:HierM w hb n es R S O I):
  Calls Tryz.prog 48 #[.pointer (some ⟨hb,0,none⟩)] w fun e w'=>e=.returned (.int .i64 (S.length:Int))∧w=w':=by
 obtain ⟨a,c,c3,-⟩:=h.c3
 clear h
 go_enter Tryz.func48,Tryz.ntmps48
 go_wp2
 go_ret
 exact ⟨rfl,rfl⟩
theorem hrank_any (hb n:Nat) (es:List EdgeD) (R:List Int) (S:List SC) (O I:List (List Int)) (w:World) (h:HierM w hb n es R S O I) (v:Nat) (hv:v<n):
  Calls Tryz.prog 53 #[.pointer (some ⟨hb,0,none⟩),.int .i64 (v:Int)] w fun e w'=>e=.returned (.int .i64 (rAt R v))∧w=w':=by
 have HN:=Lib.hid (nodes_any hb n es R S O I w h)
 obtain ⟨a,c,c2,k2⟩:=h.c2
 have hvl:v<R.length:=by rw [h.rl];exact hv
 obtain ⟨b,o,rfl,y0⟩:=k2.at hvl
 have hv0:(0:Int)≤(v:Int):=by omega
 have hv1:(v:Int)<(n:Int):=by omega
 have hv2:(v:Int)<(R.length:Int):=by omega
 have HR:=Lib.hid (show rAt R v=R[v] by unfold rAt;rw [Int.toNat_natCast,List.getD_eq_getElem?_getD,List.getElem?_eq_getElem hvl];rfl)
 generalize R[v]=r at*
 clear h k2
 go_enter Tryz.func53,Tryz.ntmps53
 go_wp2_with (go_at_call 76;refine HN.out.mono ?_;rintro e w1 ⟨rfl,rfl⟩)
 go_ret
 exact ⟨by rw [HR.out];rfl,rfl⟩
theorem shortcut_any (hb n:Nat) (es:List EdgeD) (R:List Int) (S:List SC) (O I:List (List Int)) (w:World) (h:HierM w hb n es R S O I) (i:Nat) (hi:i<S.length):
  Calls Tryz.prog 40 #[.pointer (some ⟨hb,0,none⟩),.int .i64 (i:Int)] w fun e w'=>e=.returned (.tuple #[scV S[i],.bool true])∧Below w.heap.size w w':=by
 obtain ⟨W,hW⟩:∃W,W=w.alloc (Obj.cells #[.int .i64 0,.int .i64 0,.int .u64 0,.int .i64 0,.int .i64 0,.int .i64 0] 79):=⟨_,rfl⟩
 have hbw:Below w.heap.size w W:=by rw [hW];exact Below.of_al _ _
 have HN:=Lib.hid (size_any hb n es R S O I W (h.go hbw))
 obtain ⟨a,c,c3,k3⟩:=h.c3
 obtain ⟨b,o,rfl,y0,y1,y2,y3,y4,y5⟩:=cel_sc6 k3 hi
 have d3:=cell_later hbw c3
 have z0:=cell_later hbw y0
 have z1:=cell_later hbw y1
 have z2:=cell_later hbw y2
 have z3:=cell_later hbw y3
 have z4:=cell_later hbw y4
 have z5:=cell_later hbw y5
 have hi0:(0:Int)≤(i:Int):=by omega
 have hi1:(i:Int)<(S.length:Int):=by omega
 have HW:=Lib.hid hW
 have HB:=Lib.hid hbw
 generalize S[i]=x at*
 rw [hW] at HN d3 z0 z1 z2 z3 z4 z5
 clear h k3 hW hbw
 go_enter Tryz.func40,Tryz.ntmps40
 go_wp2_with (go_at_call 48;refine HN.out.mono ?_;rintro e w1 ⟨rfl,rfl⟩)
 refine bodyPost_ret (v:=.tuple #[scV x,.bool true]) (by simp [results,Tryz.results40,go_sem];try rfl) rfl ?_
 exact ⟨rfl,Below.of_al _ _⟩
theorem shortcut_none (hb n:Nat) (es:List EdgeD) (R:List Int) (S:List SC) (O I:List (List Int)) (w:World) (h:HierM w hb n es R S O I) (i:Int) (hi:i<0∨(S.length:Int)≤i):
  Calls Tryz.prog 40 #[.pointer (some ⟨hb,0,none⟩),.int .i64 i] w fun e w'=>e=.returned (.tuple #[scV scZ,.bool false])∧Below w.heap.size w w':=by
 have hbw:=Below.of_al w (Obj.cells #[.int .i64 0,.int .i64 0,.int .u64 0,.int .i64 0,.int .i64 0,.int .i64 0] 79)
 have HN:=Lib.hid (size_any hb n es R S O I _ (h.go hbw))
 clear h hbw
 by_cases h0:i<0
 ·go_enter Tryz.func40,Tryz.ntmps40
  go_wp2
  refine bodyPost_ret (v:=.tuple #[scV scZ,.bool false]) (by simp [results,Tryz.results40,go_sem,scZ];try rfl) rfl ?_
  exact ⟨rfl,Below.of_al _ _⟩
 ·have h1:(S.length:Int)≤i:=by omega
  go_enter Tryz.func40,Tryz.ntmps40
  go_wp2_with (go_at_call 48;refine HN.out.mono ?_;rintro e w1 ⟨rfl,rfl⟩)
  refine bodyPost_ret (v:=.tuple #[scV scZ,.bool false]) (by simp [results,Tryz.results40,go_sem,scZ];try rfl) rfl ?_
  exact ⟨rfl,Below.of_al _ _⟩
def RowPost (l:List Int) (w:World) (e:Ending) (w':World):Prop:=(∃(a:Option Addr) (c:Nat),e=.returned (.slice a l.length c)∧Cel w a (l.map encI))∧w=w'
theorem RowPost.mk {l:List Int} {w:World} {a:Option Addr} (c:Nat) (h:Cel w a (l.map encI)):RowPost l w (.returned (.slice a l.length c)) w:=⟨⟨a,c,rfl,h⟩,rfl⟩
theorem row_out (hb n:Nat) (es:List EdgeD) (R:List Int) (S:List SC) (O I:List (List Int)) (w:World) (h:HierM w hb n es R S O I) (v:Nat) (hv:v<n):
  Calls Tryz.prog 162 #[.pointer (some ⟨hb,0,none⟩),.int .i64 (v:Int),.bool false] w (RowPost (O.getD v []) w):=by
 have HN:=Lib.hid (nodes_any hb n es R S O I w h)
 obtain ⟨v4,c4,a4,d4,rows4,rfl,l4,k4,m4⟩:=h.c4
 obtain ⟨a,c,e4,q4⟩:=m4 v hv
 obtain ⟨b4,o4,rfl,y4⟩:=k4 v _ e4
 have hv0:(0:Int)≤(v:Int):=by omega
 have hv1:(v:Int)<(n:Int):=by omega
 have Q4:=Lib.hid q4
 generalize O.getD v []=lo at*
 clear h k4 m4 q4 e4 l4
 go_enter Tryz.func162,Tryz.ntmps162
 go_wp2_with (go_at_call 76;refine HN.out.mono ?_;rintro e w1 ⟨rfl,rfl⟩)
 go_ret
 exact .mk _ Q4.out
theorem row_into (hb n:Nat) (es:List EdgeD) (R:List Int) (S:List SC) (O I:List (List Int)) (w:World) (h:HierM w hb n es R S O I) (v:Nat) (hv:v<n):
  Calls Tryz.prog 162 #[.pointer (some ⟨hb,0,none⟩),.int .i64 (v:Int),.bool true] w (RowPost (I.getD v []) w):=by
 have HN:=Lib.hid (nodes_any hb n es R S O I w h)
 obtain ⟨v4,c4,a4,d4,rows4,rfl,l4,k4,m4⟩:=h.c5
 obtain ⟨a,c,e4,q4⟩:=m4 v hv
 obtain ⟨b4,o4,rfl,y4⟩:=k4 v _ e4
 have hv0:(0:Int)≤(v:Int):=by omega
 have hv1:(v:Int)<(n:Int):=by omega
 have Q4:=Lib.hid q4
 generalize I.getD v []=lo at*
 clear h k4 m4 q4 e4 l4
 go_enter Tryz.func162,Tryz.ntmps162
 go_wp2_with (go_at_call 76;refine HN.out.mono ?_;rintro e w1 ⟨rfl,rfl⟩)
 go_ret
 exact .mk _ Q4.out
end Go.Proofs.YtkdomobedfhhgaaGreat
end
section
namespace Go.Proofs.YtkdomobedfhhgaaGreat
open Go Go.Proofs Go.RowKit
def SeqK {α:Type} (F:Fence) (n:Nat) (P:Program) (g:Nat) (lb:Array Value) (encs:α→Array Value) (parts:List α) (Kp:Nat→Prop) (w:World):Prop:=
 ∀(l:Nat) (J Jx:List α→World→Prop) (W:World),KeepX Kp w W→(∀pre W1 W2,J pre W1→OffX (fun _=>False) W1 W2→J pre W2)→(∀pre W1 W2,Jx pre W1→OffX (fun _=>False) W1 W2→Jx pre W2)→
  (∀pre x W1,J pre W1→(pre++[x]) <+:parts→YieldAt F (n-1) P l (encs x) W1 fun e W'=>
   (e=.returned (.bool true)∧J (pre++[x]) W'∧KeepX Kp W1 W')∨(e=.returned (.bool false)∧Jx (pre++[x]) W'))→
  J [] W→
  CallsIn F n P g (#[.func (.yield l) #[] #[]]++lb) W fun e W'=>(∃v,e=.returned v)∧(J parts W'∨∃pre,pre <+:parts∧Jx pre W')
def postK {α:Type} (X:Nat→Prop) (I:List α→World→Prop) (Ix:Code→List α→World→Prop) (xs:List α) (W:World):Exit→Act→World→Prop
 | .normal,_,W'=>KeepX X W W'∧I xs W'
 | .ret,_,W'=>KeepX X W W'∧Ix .ret xs W'
 | .exit id,_,W'=>KeepX X W W'∧Ix (.exit id) xs W'
 | .goto t,_,W'=>KeepX X W W'∧Ix (.goto t) xs W'
 | .panic _,_,_=>False
 | .outgrown,_,_=>False
variable {F:Fence} {n:Nat} {P:Program}
def BodyK (Kp:Nat→Prop) (D k:Nat):Prop:=Kp k∨k=D∨k=D+1
def TurnK (D k:Nat):Prop:=k=D+1
theorem wpIn_rangeK {α:Type} {g:Operand} {ps:Array Tmp} {assign body:Code} {Q:Exit→Act→World→Prop} {a:Act} {w:World}
  (hro:F.round=none) (h1:1≤n) {gf:Nat} {lb:Array Value} (hg:a.eval g=.func (.func gf) #[] lb) (hFg:F.fn gf) (eg:∀args w,(callFunc gf args).run P w=.ok (.enter gf args) w)
  {encs:α→Array Value} {parts:List α} {Kp:Nat→Prop} (hseq:SeqK F (n-1) P gf lb encs parts Kp w) (hB:∀k,Kp k→k<w.heap.size) (hps:∀x,(encs x).size=ps.size)
  (I:List α→World→Prop) (Ix:Code→List α→World→Prop)
  (hI:∀pre W W',I pre W→OffX (TurnK w.heap.size) W W'→I pre W') (hIx:∀c pre W W',Ix c pre W→OffX (TurnK w.heap.size) W W'→Ix c pre W') (h0:I [] w) (a₁:α→World→Act) (W₁:α→World→World) (hW₁:∀x W,Below W.heap.size W (W₁ x W))
  (hassign:∀(l:Nat) (x:α) (W:World) (K:Act→World→Prop),K (a₁ x W) (W₁ x W)→
   assign.wpIn (F.inRound l) (n-1-1) P (Exit.then K (fun _ _ _=>False)) { tmps:=(ps.zip (encs x)).foldl (fun t (p,v)=>t.setIfInBounds p v) a.tmps,defers:=[] } W)
  (hbody:∀(l:Nat) (pre:List α) (x:α) (W0 W:World),I pre W→(pre++[x]) <+:parts→w.heap.size+2≤W0.heap.size→OffX (TurnK w.heap.size) (W₁ x W0) W→
   body.wpIn (F.inRound l) (n-1-1) P (postK (BodyK Kp w.heap.size) I Ix (pre++[x]) W) (a₁ x W0) W)
  (hdone:∀(D:Nat) (W:World),D=w.heap.size→I parts W→W.heap[D]? =some (.deferred (some []))→Q .normal { a with defers:={ target:=.collected D,args:=#[] }::a.defers } W)
  (hstop:∀(D:Nat) (c:Code) (pre:List α) (W:World),D=w.heap.size→pre <+:parts→Ix c pre W→W.heap[D]? =some (.deferred (some []))→c.wpIn F n P Q { a with defers:={ target:=.collected D,args:=#[] }::a.defers } W):
  (Code.rangeFunc g ps assign body).wpIn F n P Q a w:=by
 refine wpIn_rangeFunc fun fn hfn=>?_
 rw [hro]
 obtain ⟨R,hR⟩:∃R:LoopState→Option Code→Loop,R=fun st pe=>{ state:=st,pending:=pe,fn,tmps:=a.tmps,params:=ps,assign,body,defers:=w.heap.size }:=⟨_,rfl⟩
 obtain ⟨D,hD⟩:∃D,w.heap.size=D:=⟨_,rfl⟩
 obtain ⟨V,hV⟩:∃V,V=(w.alloc (.deferred (some []))).alloc (.loop (R .ready none)):=⟨_,rfl⟩
 have loopV:V.heap[D+1]? =some (.loop (R .ready none)):=by
  have:=World.alloc_heap_new (w.alloc (.deferred (some []))) (.loop (R .ready none))
  rw [World.size_alloc,hD] at this
  rw [hV];exact this
 have markV:V.heap[D]? =some (.deferred (some [])):=by
  have:=World.alloc_heap_new w (.deferred (some []))
  rw [hD] at this
  rw [hV,Below.heap_alloc _ _ _ (by rw [World.size_alloc];omega)]
  exact this
 have growV:Below w.heap.size w V:=by rw [hV];exact ((Below.refl _ w).alloc (Nat.le_refl _) _).alloc (by simp) _
 have sizeV:V.heap.size=D+2:=by rw [hV];simp;omega
 have isR:∀st pe,(R st pe).params=ps∧(R st pe).tmps=a.tmps∧(R st pe).fn=fn∧(R st pe).assign=assign∧(R st pe).body=body∧(R st pe).state=st∧(R st pe).pending=pe:=fun st pe=>by rw [hR];exact ⟨rfl,rfl,rfl,rfl,rfl,rfl,rfl⟩
 refine ⟨D+1,[{ target:=.collected D,args:=#[] }],V,{ target:=.fn (.func gf) lb,args:=#[.func (.yield (D+1)) #[] #[]] },V,gf,#[.func (.yield (D+1)) #[] #[]]++lb,V,?_,?_,?_,?_,fun _=>h1,?_⟩
 ·have:=run_enterLoop_outer (P:=P) (w:=w) fn a.tmps ps assign body
  rw [this,hV,hR,hD]
 ·simp only [resolve,hg]
  simp [go_sem]
 ·intro f' hf'
  simp [Target.leads] at hf'
  subst hf'
  exact hFg
 ·simp [invoke,go_sem,eg]
 ·rw [hD] at hI hIx hbody hdone hstop hB growV
  refine (hseq (D+1) (fun pre W=>I pre W∧W.heap[D+1]? =some (.loop (R .ready none))∧W.heap[D]? =some (.deferred (some [])))
   (fun pre W=>∃c,Ix c pre W∧W.heap[D+1]? =some (.loop (R .done (some c)))∧W.heap[D]? =some (.deferred (some [])))
   V ⟨growV.size,fun k hk=>growV.block k (by have:=hB k hk;omega)⟩ ?_ ?_ ?round ⟨hI _ _ _ h0 (.of_below (by rw [hD];exact growV)),loopV,markV⟩).mono ?_
  ·rintro pre W1 W2 ⟨hi,hl,hk⟩ ho
   refine ⟨hI _ _ _ hi (ho.mono fun k e=>e.elim),?_,?_⟩
   ·rw [ho.block (D+1) (Array.getElem?_eq_some_iff.1 hl).1 (fun e=>e.elim)];exact hl
   ·rw [ho.block D (Array.getElem?_eq_some_iff.1 hk).1 (fun e=>e.elim)];exact hk
  ·rintro pre W1 W2 ⟨c,hi,hl,hk⟩ ho
   refine ⟨c,hIx _ _ _ _ hi (ho.mono fun k e=>e.elim),?_,?_⟩
   ·rw [ho.block (D+1) (Array.getElem?_eq_some_iff.1 hl).1 (fun e=>e.elim)];exact hl
   ·rw [ho.block D (Array.getElem?_eq_some_iff.1 hk).1 (fun e=>e.elim)];exact hk
  case round=>
   rintro pre x W0 ⟨hi0,hl0,hk0⟩ hpx
   have hlt0:D+1<W0.heap.size:=(Array.getElem?_eq_some_iff.1 hl0).1
   have hgr:=hW₁ x W0
   obtain ⟨e1,e2,e3,e4,e5,e6,e7⟩:=isR .ready none
   have hy:=run_yield (P:=P) (args:=encs x) hl0 (by rw [e1];exact hps x)
   rw [e1,e2,e3,e4,e5] at hy
   have hl:(W₁ x W0).heap[D+1]? =some (.loop (R .ready none)):=(hgr.block _ hlt0).trans hl0
   have hk:(W₁ x W0).heap[D]? =some (.deferred (some [])):=(hgr.block _ (by omega)).trans hk0
   have hi:I pre (W₁ x W0):=hI _ _ _ hi0 (.of_below hgr)
   have hk00:KeepX Kp W0 (W₁ x W0):=⟨hgr.size,fun k hk=>hgr.block k (by have:=hB k hk;omega)⟩
   refine ⟨fn,_,assign,body,hy,roundIn_of_wpIn hfn (hassign _ x W0 _ ⟨_,run_beginRound hl e6,?_⟩)⟩
   obtain ⟨W,hW⟩:∃W,W=W₁ x W0:=⟨_,rfl⟩
   rw [←hW] at hl hk hi hgr hk00 ⊢
   have hlt:D+1<W.heap.size:=(Array.getElem?_eq_some_iff.1 hl).1
   obtain ⟨Wb,hWb⟩:∃Wb,Wb=W.putObj (D+1) (.loop { R .ready none with state:=.busy }):=⟨_,rfl⟩
   rw [←hWb]
   have hlb:Wb.heap[D+1]? =some (.loop { R .ready none with state:=.busy }):=by rw [hWb];exact World.putObj_heap_same hlt
   have hkb:Wb.heap[D]? =some (.deferred (some [])):=by rw [hWb];exact (World.putObj_heap_other (by omega)).trans hk
   have hob:OffX (TurnK D) W Wb:=by rw [hWb];exact .put _ rfl
   have hsb:W.heap.size≤Wb.heap.size:=hob.size
   have hkx:KeepX Kp W Wb:=⟨hsb,fun k hk=>by
    rw [hWb];exact World.putObj_heap_other (by have:=hB k hk;omega)⟩
   refine wpIn_mono (hbody _ pre x W0 Wb (hI _ _ _ hi hob) hpx (by omega) (by rw [←hW];exact hob)) ?_
   have fin:∀(jump:Option Code) (W3:World),KeepX (BodyK Kp D) Wb W3→∃W4,(Instr.endRound (D+1) jump).run P W3=.ok (.bool jump.isNone) W4∧OffX (TurnK D) W3 W4∧KeepX Kp W0 W4∧
     W4.heap[D+1]? =some (.loop (R (if jump.isNone then .ready else .done) jump))∧W4.heap[D]? =some (.deferred (some [])):=by
    intro jump W3 hk3
    have hl3:W3.heap[D+1]? =some (.loop { R .ready none with state:=.busy }):=(hk3.2 _ (.inr (.inr rfl))).trans hlb
    have hd3:W3.heap[D]? =some (.deferred (some [])):=(hk3.2 _ (.inr (.inl rfl))).trans hkb
    have he:=run_endRound (P:=P) jump hl3
    refine ⟨_,he,.put _ rfl,hk00.trans (hkx.trans ((hk3.mono fun k h=>.inl h).trans ⟨(OffX.put (X:=TurnK D) _ rfl).size,fun k hk=>World.putObj_heap_other (by have:=hB k hk;omega)⟩)),?_,(World.putObj_heap_other (by omega)).trans hd3⟩
    rw [World.putObj_heap_same (Array.getElem?_eq_some_iff.1 hl3).1,hR]
   rintro e a3 W3 hp
   cases e with
   |normal=>
    obtain ⟨hk3,hi3⟩:=hp
    obtain ⟨W4,r1,r2,r3,r4,r5⟩:=fin none W3 hk3
    exact ⟨_,_,r1,.inl ⟨rfl,⟨hI _ _ _ hi3 r2,r4,r5⟩,r3⟩⟩
   |ret=>
    obtain ⟨hk3,hi3⟩:=hp
    obtain ⟨W4,r1,r2,r3,r4,r5⟩:=fin (some .ret) W3 hk3
    exact ⟨_,_,r1,.inr ⟨rfl,.ret,hIx _ _ _ _ hi3 r2,r4,r5⟩⟩
   |exit id=>
    obtain ⟨hk3,hi3⟩:=hp
    obtain ⟨W4,r1,r2,r3,r4,r5⟩:=fin (some (.exit id)) W3 hk3
    exact ⟨_,_,r1,.inr ⟨rfl,.exit id,hIx _ _ _ _ hi3 r2,r4,r5⟩⟩
   |goto t=>
    obtain ⟨hk3,hi3⟩:=hp
    obtain ⟨W4,r1,r2,r3,r4,r5⟩:=fin (some (.goto t)) W3 hk3
    exact ⟨_,_,r1,.inr ⟨rfl,.goto t,hIx _ _ _ _ hi3 r2,r4,r5⟩⟩
   |panic ch=>exact hp.elim
   |outgrown=>exact hp.elim
  ·rintro e W2 ⟨⟨v,rfl⟩,⟨hi,hl,hk⟩|⟨pre,hpp,c,hi,hl,hk⟩⟩
   ·obtain ⟨e1,e2,e3,e4,e5,e6,e7⟩:=isR .ready none
    have he:=run_endLoop (P:=P) hl (by rw [e6];simp)
    rw [e7] at he
    exact ⟨none,_,he,hdone D _ rfl (hI _ _ _ hi (.put _ rfl)) ((World.putObj_heap_other (by omega)).trans hk)⟩
   ·obtain ⟨e1,e2,e3,e4,e5,e6,e7⟩:=isR .done (some c)
    have he:=run_endLoop (P:=P) hl (by rw [e6];simp)
    rw [e7] at he
    exact ⟨some c,_,he,hstop D c pre _ rfl hpp (hIx _ _ _ _ hi (.put _ rfl)) ((World.putObj_heap_other (by omega)).trans hk)⟩
end Go.Proofs.YtkdomobedfhhgaaGreat
end
