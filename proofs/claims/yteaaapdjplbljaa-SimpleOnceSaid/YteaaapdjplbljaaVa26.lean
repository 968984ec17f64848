/- Walk of package simple: what the inner function of Each works with; what is deferred; may it be asked for. -/
import Derived.Test.YteaaapdjplbljaaProg
import Derived.Test.YteaaapdjplbljaaVa07
import Derived.Test.YteaaapdjplbljaaVa18
import Derived.Test.YteaaapdjplbljaaVa19
import Derived.Test.YteaaapdjplbljaaVa21
import Derived.Test.YteaaapdjplbljaaVa22
import Derived.Test.YteaaapdjplbljaaVa25
import Derived.Defers
import Derived.Deep.Cut
set_option linter.unusedVariables false
set_option linter.unusedSimpArgs false
set_option linter.unnecessarySimpa false
namespace Go.Proofs.Yteaaapdjplbljaa.Sm
open Go Go.Proofs Go.RowKit Go.Shelf Go.Proofs.Yteaaapdjplbljaa Go.Proofs.Yteaaapdjplbljaa.Ad Go.Proofs.Yteaaapdjplbljaa.Hp Go.Proofs.Yteaaapdjplbljaa.Ch
theorem nodup_le:∀(n:Nat) (l:List Int),l.Nodup→(∀x∈l,0≤x∧x<(n:Int))→l.length≤n
 |0,[],_,_=>Nat.le_refl _
 |0,x::l,_,h=>by have:=h x (List.mem_cons_self ..);omega
 |n+1,l,hd,h=>by
  by_cases hn:(n:Int)∈l
  ·have h1:=nodup_le n (l.erase (n:Int)) (hd.erase _) (fun x hx=>by
    obtain ⟨h2,h3⟩:=hd.mem_erase_iff.1 hx
    have:=h x h3
    omega)
   rw [List.length_erase_of_mem hn] at h1
   have:=List.length_pos_of_mem hn
   omega
  ·have h1:=nodup_le n l hd (fun x hx=>by
    have h2:=h x hx
    have:x≠(n:Int):=fun e=>hn (e▸hx)
    omega)
   omega
structure SmK where
 n:Nat
 es:List EdgeD
 t:Int
 tb:Nat
 yb:Nat
 mb:Nat
 cb:Nat
 gb:Nat
 M:Nat
 ab:Nat
 lo:Nat
 hi:Nat
 yl:Nat
 B:Nat
def SmK.caps (K:SmK):Array Value:=#[.pointer (some ⟨K.tb,0,none⟩),.pointer (some ⟨K.yb,0,none⟩),.pointer (some ⟨K.mb,0,none⟩),.pointer (some ⟨K.cb,0,none⟩),.pointer (some ⟨K.gb,0,none⟩)]
def SmK.C (K:SmK) (k:Nat):Prop:=k=K.tb∨k=K.yb∨k=K.mb∨k=K.cb∨k=K.gb∨(K.lo≤k∧k<K.hi)
structure SmK.Con (K:SmK) (W:World) (Pr:Nat→Prop):Prop where
 ct:W.cell? ⟨K.tb,0,none⟩=some (.int .i64 K.t)
 cy:W.cell? ⟨K.yb,0,none⟩=some (.func (.yield K.yl) #[] #[])
 cm:W.cell? ⟨K.mb,0,none⟩=some (.slice (some ⟨K.M,0,none⟩) K.n K.n)
 ca:W.cell? ⟨K.cb,0,none⟩=some (.pointer (some ⟨K.ab,0,none⟩))
 cg:W.cell? ⟨K.gb,0,none⟩=some (.func (.func 41) #[] K.caps)
 ad:AdjM W K.lo K.hi K.ab K.n K.es
 lt:∀k,K.C k→k<W.heap.size
 pr:∀k,K.C k→k≠K.tb→¬Pr k
 mp:¬Pr K.M
 mc:¬K.C K.M
 mB:K.B≤K.M
 pb:∀k,Pr k→k<W.heap.size
 sz:K.B≤W.heap.size
 n1:K.n≤4096∧K.es.length≤16384
 ok:∀e∈K.es,nodeN K.n e.f∧nodeN K.n e.t∧1≤e.w∧e.w≤4294967296
theorem SmK.Con.kept {K:SmK} {W W':World} {Pr Pr':Nat→Prop} (h:K.Con W Pr) (hk:∀k,K.C k→W'.heap[k]? =W.heap[k]?) (hs:W.heap.size≤W'.heap.size) (h1:∀k,K.C k→k≠K.tb→¬Pr' k) (h2:¬Pr' K.M) (h3:∀k,Pr' k→k<W'.heap.size):K.Con W' Pr':=by
 have hc:∀{b:Nat} {v},K.C b→W.cell? ⟨b,0,none⟩=some v→W'.cell? ⟨b,0,none⟩=some v:=fun hb hj=>(World.cell?_of_block (w:=W) (hk _ hb)).trans hj
 exact ⟨hc (.inl rfl) h.ct,hc (.inr (.inl rfl)) h.cy,hc (.inr (.inr (.inl rfl))) h.cm,hc (.inr (.inr (.inr (.inl rfl)))) h.ca,hc (.inr (.inr (.inr (.inr (.inl rfl))))) h.cg,h.ad.kept (fun k k1 k2=>hk k (.inr (.inr (.inr (.inr (.inr ⟨k1,k2⟩)))))),
  fun k hk'=>Nat.lt_of_lt_of_le (h.lt k hk') hs,h1,h2,h.mc,h.mB,h3,Nat.le_trans h.sz hs,h.n1,h.ok⟩
theorem SmK.Con.go {K:SmK} {W W':World} {Pr:Nat→Prop} (h:K.Con W Pr) (hb:Below W.heap.size W W'):K.Con W' Pr:=
 h.kept (fun k hk=>hb.block k (h.lt k hk)) hb.size h.pr h.mp (fun k hk=>Nat.lt_of_lt_of_le (h.pb k hk) hb.size)
def metL (n:Nat) (met:List Int):List Value:=(List.range n).map fun (j:Nat)=>.bool (decide ((j:Int)∈met))
def SmK.St (K:SmK) (W:World) (met:List Int):Prop:=W.ownsRow K.B 4 1 (.slice (some ⟨K.M,0,none⟩) K.n K.n) K.n (metL K.n met)
theorem metL_at {n:Nat} {met:List Int} {j:Nat} (h:j<n):(metL n met)[j]? =some (.bool (decide ((j:Int)∈met))):=by
 unfold metL
 rw [List.getElem?_map,List.getElem?_range h]
 rfl
theorem metL_set {n:Nat} {met met':List Int} {v:Nat} {b:Bool} (h1:∀j:Nat,j≠v→((j:Int)∈met'↔(j:Int)∈met)) (h2:decide ((v:Int)∈met')=b):(metL n met).set v (.bool b)=metL n met':=by
 apply List.ext_getElem?
 intro j
 rw [List.getElem?_set]
 by_cases hj:j<n
 ·rw [metL_at hj]
  by_cases e:v=j
  ·subst e
   rw [if_pos rfl,if_pos (by unfold metL;simpa using hj),metL_at hj,h2]
  ·rw [if_neg e,metL_at hj]
   simp only [h1 j (fun k=>e k.symm)]
 ·have h3:∀m,(metL n m)[j]? =none:=fun m=>List.getElem?_eq_none (by unfold metL;simp;omega)
  rw [h3 met']
  by_cases e:v=j
  ·subst e
   rw [if_pos rfl,if_neg (by unfold metL;simp;omega)]
  ·rw [if_neg e,h3 met]
theorem SmK.St.cell {K:SmK} {W:World} {met:List Int} (h:K.St W met) {j:Nat} (hj:j<K.n):W.cell? ⟨K.M,j,none⟩=some (.bool (decide ((j:Int)∈met))):=by
 rw [h.cellAt j (by omega)]
 exact metL_at hj
theorem SmK.St.put {K:SmK} {W:World} {met met':List Int} (h:K.St W met) {v:Nat} {b:Bool} (h1:∀j:Nat,j≠v→((j:Int)∈met'↔(j:Int)∈met)) (h2:decide ((v:Int)∈met')=b):K.St (W.setCell ⟨K.M,v,none⟩ (.bool b)) met':=by
 have h3:=(h.stored v (.bool b)).1
 rw [metL_set h1 h2] at h3
 exact h3
theorem SmK.St.off {K:SmK} {X:Nat→Prop} {W W':World} {met:List Int} (h:K.St W met) (ho:OffX X W W') (hX:¬X K.M):K.St W' met:=by
 refine ⟨h.1,?_⟩
 rcases h.2 with ⟨h1,_⟩|⟨g,cap,cur,hv,hbg,hg,r⟩
 ·cases h1
 ·cases hv
  exact .inr ⟨_,_,cur,rfl,hbg,by rw [ho.block _ (Array.getElem?_eq_some_iff.1 hg).1 hX];exact hg,r⟩
theorem SmK.St.lt {K:SmK} {W:World} {met:List Int} (h:K.St W met):K.M<W.heap.size:=(World.ownsRow.lt h K.M rfl).2
def AtR (x:RtC) (W:World):Prop:=Cel W x.ao (x.r.es.map encI)
def bkR (x:RtC) (k:Nat):Prop:=∃a,x.ao=some a∧k=a.block
def encSR (x:RtC):Array Value:=#[encRt x]
def YieldOK (K:SmK) (Kp:Nat→Prop) (T:List RtD) (m:Nat) (J Jx:List RtC→(Nat→Prop)→World→Prop):Prop:=
 ∀pre Pr x W1,J pre Pr W1→((pre++[x]).map (·.r)) <+:T→AtR x W1→(∀k,bkR x k→¬Pr k∧K.B≤k∧k<W1.heap.size)→K.B≤W1.heap.size→YieldAt Fence.wide m Try.prog K.yl (encSR x) W1 fun e W'=>
  ∃Pr',GrowE Pr Pr' (bkR x) W1.heap.size W'.heap.size∧OffX (fun k=>Pr k∧¬Kp k) W1 W'∧((e=.returned (.bool true)∧J (pre++[x]) Pr' W')∨(e=.returned (.bool false)∧Jx (pre++[x]) Pr' W'))
def SmK.X (K:SmK) (Kp Pr:Nat→Prop) (rv:Value) (k:Nat):Prop:=k=K.M∨rv.ownBlock=some k∨(Pr k∧¬Kp k)
def SmPost (K:SmK) (Kp:Nat→Prop) (T:List RtD) (J Jx:List RtC→(Nat→Prop)→World→Prop) (m0:List Int) (row:List Int) (rv:Value) (pre:List RtC) (xs:List RtD) (Pr:Nat→Prop) (W:World) (e:Ending) (W':World):Prop:=
 ∃Pr',(∀k,Pr' k→(Pr k∨W.heap.size≤k)∧k<W'.heap.size)∧OffX (K.X Kp Pr rv) W W'∧W'.ownsRow K.B 3 1 rv row.length (row.map encI)∧K.St W' m0∧
  ((e=.returned (.bool true)∧∃ys,ys.map (·.r)=xs∧J (pre++ys) Pr' W')∨(e=.returned (.bool false)∧∃pre',(pre'.map (·.r)) <+:T∧Jx pre' Pr' W'))
set_option maxHeartbeats 1000000 in
set_option maxRecDepth 100000 in
theorem undo_any (K:SmK) (vb v:Nat) (m0:List Int) (u:FrameMode) (m:Nat) (W:World) (hc:W.cell? ⟨K.mb,0,none⟩=some (.slice (some ⟨K.M,0,none⟩) K.n K.n)) (hS:K.St W (m0++[(v:Int)])) (hv:v<K.n) (hm:(v:Int)∉m0) (h0:W.cell? ⟨vb,0,none⟩=some (.int .i64 (v:Int))):
  CallsDIn Fence.wide m Try.prog 43 #[.pointer (some ⟨K.mb,0,none⟩),.pointer (some ⟨vb,0,none⟩)] u W fun e u' W'=>u'=u∧(e=.returned (.tuple #[])∧K.St W' m0∧OffX (· =K.M) W W'):=by
 have HS:=Lib.hid hS
 have hfr:=World.ownsRow.frozenAt hS v
 have hcm:=hS.cell hv
 have hvn:(v:Int)<(K.n:Int):=by omega
 have hv0:(0:Int)≤(v:Int):=by omega
 have HM:=Lib.hid hm
 clear hS hm
 refine callsDIn_of_wp Try.func43 rfl trivial (wpIn_wide.2 ?_)
 simp only [Try.ntmps43,List.size_toArray,List.length_cons,List.length_nil,Nat.reduceAdd,Nat.reduceSub,Array.replicate_succ,Array.replicate_zero,List.push_toArray,List.append_toArray,List.nil_append,List.cons_append]
 go_wp2
 go_end0
 exact ⟨rfl,HS.out.put (fun j hj=>by simp;omega) (decide_eq_false HM.out),.set _ rfl⟩
theorem leaves_door {fn:Func} {tmps:Array Value} {R:Ending→World→Prop} {D:Nat} {W:World} (K:SmK) (vb v:Nat) (m0:List Int) (hD:W.heap[D]? =some (.deferred (some []))) (hc:W.cell? ⟨K.mb,0,none⟩=some (.slice (some ⟨K.M,0,none⟩) K.n K.n)) (hS:K.St W (m0++[(v:Int)])) (hv:v<K.n) (hm:(v:Int)∉m0) (h0:W.cell? ⟨vb,0,none⟩=some (.int .i64 (v:Int)))
  (n1:D≠K.mb) (n2:D≠K.M) (n3:D≠vb) (h:∀W',K.St W' m0→OffX (fun k=>k=K.M∨k=D) W W'→∃v,(results fn tmps).run Try.prog W'=.ok v W'∧R (.returned v) W'):
  LeavesInM Fence.wide 4 Try.prog fn tmps R [{ target:=.collected D,args:=#[] },{ target:=.fn (.func 43) #[.pointer (some ⟨K.mb,0,none⟩),.pointer (some ⟨vb,0,none⟩)],args:=#[] }] .returning W:=by
 refine ⟨by simp,.inl ⟨_,_,rfl,run_takeDeferred hD,?_⟩⟩
 have hp:OffX (· =D) W (W.putObj D (.deferred none)):=.put _ rfl
 have hu:=undo_any K vb v m0 .returning 3 _ (hp.cell hc (fun e=>n1 e.symm)) (hS.off hp (fun e=>n2 e.symm)) hv hm (hp.cell h0 (fun e=>n3 e.symm))
 refine ⟨by simp,.inr ⟨(fun hh=>(by cases hh)),_,_,_,_,rfl,?_,fun _ _=>trivial,hu.mono ?_⟩⟩
 ·simp [invoke,go_sem]
 ·rintro e u' W' ⟨rfl,rfl,h1,h2⟩
  exact h W' h1 ((hp.mono fun k e=>.inr e).trans (h2.mono fun k e=>.inl e))
def whyS (g:GD) (s t:Int):Int:=if rightG g≠0 then 1 else if nodeB g.n s=false∨nodeB g.n t=false then 7 else 0
set_option maxHeartbeats 1000000 in
set_option maxRecDepth 100000 in
theorem check_any (g:GD) (ao:Option Addr) (cap:Nat) (s t:Int) (w:World) (hl:g.es.length≤9223372036854775807) (hc:Cel w ao (flat g.es)):
  Calls Try.prog 15 #[.agg #[.int .i64 g.n,.slice ao g.es.length cap],.int .i64 s,.int .i64 t] w fun e w'=>e=.returned (.int .i64 (whyS g s t))∧Below w.heap.size w w':=by
 have HR:=Lib.hid (fun W h=>gRight_any g ao cap W hl h)
 have HC:=Lib.hid hc
 have HN:=Lib.hid (fun v W=>gnode_any g ao cap v W)
 unfold whyS
 obtain ⟨W,hW⟩:∃W,W=w.alloc (Obj.cells #[.int .i64 g.n,.slice ao g.es.length cap] 24):=⟨_,rfl⟩
 have HBW:=Lib.hid (show Below w.heap.size w W by rw [hW];exact Below.of_al _ _)
 have z0:W.cell? ⟨w.heap.size,0,none⟩=some (.int .i64 g.n):=by rw [hW];go_simp
 have z1:W.cell? ⟨w.heap.size,1,none⟩=some (.slice ao g.es.length cap):=by rw [hW];go_simp
 have HW:=Lib.hid hW
 have HCW:=Lib.hid (HC.out.go HBW.out)
 clear hc hW
 generalize rightG g=k at*
 by_cases hk:k=0
 ·subst hk
  cases h1:nodeB g.n s with
  |false=>
   go_enter Try.func15,Try.ntmps15
   go_upto_region 1 with (fail)
   rw [←HW.out]
   go_wp2_with (first|(go_at_call 29;refine (HR.out _ HCW.out).mono ?_;rintro e w1 ⟨rfl,hb⟩;(have HB1:=Lib.hid (HBW.out.st hb));(have y0:=cell_later hb z0);(have y1:=cell_later hb z1);clear hb)|(go_at_call_of 30 (#[.agg #[.int .i64 g.n,.slice ao g.es.length cap],.int .i64 s]:Array Value);refine (HN.out s _).mono ?_;rintro e w2 ⟨rfl,hb⟩;rw [h1];(have HB2:=Lib.hid (HB1.out.st hb));(have y0:=cell_later hb y0);(have y1:=cell_later hb y1);clear hb))
   go_ret
   exact ⟨by simp,HB2.out⟩
  |true=>
   cases h2:nodeB g.n t with
   |false=>
    go_enter Try.func15,Try.ntmps15
    go_upto_region 1 with (fail)
    rw [←HW.out]
    go_wp2_with (first|(go_at_call 29;refine (HR.out _ HCW.out).mono ?_;rintro e w1 ⟨rfl,hb⟩;(have HB1:=Lib.hid (HBW.out.st hb));(have y0:=cell_later hb z0);(have y1:=cell_later hb z1);clear hb)|(go_at_call_of 30 (#[.agg #[.int .i64 g.n,.slice ao g.es.length cap],.int .i64 s]:Array Value);refine (HN.out s _).mono ?_;rintro e w2 ⟨rfl,hb⟩;rw [h1];(have HB2:=Lib.hid (HB1.out.st hb));(have y0:=cell_later hb y0);(have y1:=cell_later hb y1);clear hb)|(go_at_call_of 30 (#[.agg #[.int .i64 g.n,.slice ao g.es.length cap],.int .i64 t]:Array Value);refine (HN.out t _).mono ?_;rintro e w3 ⟨rfl,hb⟩;rw [h2];(have HB3:=Lib.hid (HB2.out.st hb));(have y0:=cell_later hb y0);(have y1:=cell_later hb y1);clear hb))
    go_ret
    exact ⟨by simp,HB3.out⟩
   |true=>
    go_enter Try.func15,Try.ntmps15
    go_upto_region 1 with (fail)
    rw [←HW.out]
    go_wp2_with (first|(go_at_call 29;refine (HR.out _ HCW.out).mono ?_;rintro e w1 ⟨rfl,hb⟩;(have HB1:=Lib.hid (HBW.out.st hb));(have y0:=cell_later hb z0);(have y1:=cell_later hb z1);clear hb)|(go_at_call_of 30 (#[.agg #[.int .i64 g.n,.slice ao g.es.length cap],.int .i64 s]:Array Value);refine (HN.out s _).mono ?_;rintro e w2 ⟨rfl,hb⟩;rw [h1];(have HB2:=Lib.hid (HB1.out.st hb));(have y0:=cell_later hb y0);(have y1:=cell_later hb y1);clear hb)|(go_at_call_of 30 (#[.agg #[.int .i64 g.n,.slice ao g.es.length cap],.int .i64 t]:Array Value);refine (HN.out t _).mono ?_;rintro e w3 ⟨rfl,hb⟩;rw [h2];(have HB3:=Lib.hid (HB2.out.st hb));(have y0:=cell_later hb y0);(have y1:=cell_later hb y1);clear hb))
    go_ret
    exact ⟨by simp,HB3.out⟩
 ·have hk2:(k != 0)=true:=by simpa using hk
  have HK:=Lib.hid hk
  clear hk
  go_enter Try.func15,Try.ntmps15
  go_upto_region 1 with (fail)
  rw [←HW.out]
  go_wp2_with (first|(go_at_call 29;refine (HR.out _ HCW.out).mono ?_;rintro e w1 ⟨rfl,hb⟩;(have HB1:=Lib.hid (HBW.out.st hb));(have y0:=cell_later hb z0);(have y1:=cell_later hb z1);clear hb))
  go_ret
  exact ⟨rfl,HB1.out⟩
end Go.Proofs.Yteaaapdjplbljaa.Sm
