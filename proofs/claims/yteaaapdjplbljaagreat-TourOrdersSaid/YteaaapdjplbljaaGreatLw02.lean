/- What my walks use of every function: rows of cells that are read, rows that are owned, what a call leaves. No program in sight. A region that draws its order: a head of reads and of calls that only grow memory, in any order, and a tail in one order. -/
import Derived.WalkKit
import Derived.WalkLawsBesides
import Derived.WalkSpells
import Derived.Outline
import Derived.Lib.Hide
import Derived.Shelf.Abstract
import Derived.Deep.LoopGhost
import Derived.Deep.Quiet
import Derived.Deep.QuietTactic
import Derived.BigQuiet
import Derived.Deep.AppendLies
import Derived.Deep.RegionWith
import Derived.Deep.RegionHeld3
import Derived.ScopeJumps
import Derived.StillTail
set_option linter.unusedVariables false
set_option linter.unusedSimpArgs false
set_option linter.unnecessarySimpa false
section
namespace Go.Proofs.YteaaapdjplbljaaGreat
open Go.Proofs Go.RowKit Go.Shelf
def Cel (w:World) (ao:Option Addr) (cs:List Value):Prop:=
 ∀i u,cs[i]? =some u→∃b o,ao=some ⟨b,o,none⟩∧w.cell? ⟨b,o+i,none⟩=some u
theorem _root_.Go.RowKit.Below.st {w a b:World} (h:Below w.heap.size w a) (k:Below a.heap.size a b):Below w.heap.size w b:=h.trans (k.mono h.size)
theorem _root_.Go.RowKit.Below.al {w a:World} (h:Below w.heap.size w a) (o:Obj):Below w.heap.size w (a.alloc o):=h.alloc h.size o
theorem _root_.Go.RowKit.Below.dr {w a:World} (h:Below w.heap.size w a) (n:Nat):Below w.heap.size w (a.drewN n):=below_drewN h n
theorem _root_.Go.RowKit.Below.of_dr (w:World) (n:Nat):Below w.heap.size w (w.drewN n):=below_drewN (Below.refl _ _) n
theorem _root_.Go.RowKit.Below.of_al (w:World) (o:Obj):Below w.heap.size w (w.alloc o):=(Below.refl _ _).al o
theorem Cel.nil (w:World) (ao:Option Addr):Cel w ao []:=fun i u h=>by simp at h
theorem Cel.below {w w':World} {ao:Option Addr} {cs:List Value} {B:Nat} (h:Cel w ao cs) (hb:Below B w w') (hB:w.heap.size≤B):Cel w' ao cs:=by
 intro i u hu
 obtain ⟨b,o,e,hc⟩:=h i u hu
 exact ⟨b,o,e,cell_later (hb.mono hB) hc⟩
theorem Cel.at {α:Type} {w:World} {ao:Option Addr} {l:List α} {enc:α→Value} (h:Cel w ao (l.map enc)) {i:Nat} (hi:i<l.length):
  ∃b o,ao=some ⟨b,o,none⟩∧w.cell? ⟨b,o+i,none⟩=some (enc l[i]):=
 h i _ (by simp [hi])
theorem Cel.go {w w':World} {ao:Option Addr} {cs:List Value} (h:Cel w ao cs) (hb:Below w.heap.size w w'):Cel w' ao cs:=h.below hb (Nat.le_refl _)
theorem Cel.of_owns {w:World} {base:Nat} {e:TypeId} {size n:Nat} {v:Value} {xs:List Value} (h:w.ownsRow base e size v n xs):
  ∃ao cap,v=.slice ao n cap∧Cel w ao xs:=by
 have h2:=h.2
 rcases h2 with ⟨rfl,rfl⟩|⟨g,cap,cur,rfl,hb,hg,rest⟩
 ·refine ⟨none,0,rfl,?_⟩
  have:xs=[]:=List.eq_nil_of_length_eq_zero (by simpa using h.1)
  subst this
  exact Cel.nil _ _
 ·refine ⟨_,cap,rfl,fun i u hu=>⟨g,0,rfl,?_⟩⟩
  have:=h.cells (g:=g) rfl i u hu
  rw [Addr.add_lit] at this
  exact this
def PredOn {α:Type} (P:Program) (g:Nat) (cb:Array Value) (enc:α→Value) (p:α→Bool) (l:List α) (w:World):Prop:=
 ∀(W:World) (x:α),Below w.heap.size w W→x∈l→Calls P g (#[enc x]++cb) W fun e w'=>e=.returned (.bool (p x))∧Below W.heap.size W w'
def idxI {α:Type} (p:α→Bool):List α→Int
 |[]=>-1
 |x::r=>if p x then 0 else if idxI p r<0 then -1 else idxI p r+1
theorem idxI_ge {α:Type} (p:α→Bool):∀l:List α,-1≤idxI p l
 |[]=>by simp [idxI]
 |x::r=>by
  have:=idxI_ge p r
  unfold idxI
  split
  ·omega
  ·split<;>omega
theorem idxI_any {α:Type} (p:α→Bool):∀l:List α,decide (0≤idxI p l)=l.any p
 |[]=>by simp [idxI]
 |x::r=>by
  have h:=idxI_any p r
  unfold idxI
  by_cases hp:p x=true
  ·simp [hp]
  ·rw [Bool.eq_false_iff.2 hp,List.any_cons,←h]
   have:=idxI_ge p r
   rw [Bool.eq_false_iff.2 hp,Bool.false_or]
   simp only [Bool.false_eq_true,if_false]
   split<;>(congr 1;apply propext;omega)
theorem idxI_miss {α:Type} (p:α→Bool):∀l:List α,(∀j (h:j<l.length),p l[j]=false)→idxI p l= -1
 |[],_=>rfl
 |x::r,h=>by
  unfold idxI
  rw [show p x=false from h 0 (by simp),idxI_miss p r (fun j hj=>h (j+1) (by simpa using hj))]
  simp
theorem idxI_hit {α:Type} (p:α→Bool):∀(l:List α) (k:Nat) (hk:k<l.length),p l[k]=true→(∀j (h:j<l.length),j<k→p l[j]=false)→idxI p l=(k:Int)
 |x::r,0,_,h,_=>by unfold idxI;rw [show p x=true from h];rfl
 |x::r,k+1,hk,h,hb=>by
  unfold idxI
  rw [show p x=false from hb 0 (by simp) (by omega),idxI_hit p r k (by simpa using hk) h (fun j hj h2=>hb (j+1) (by simpa using hj) (by omega))]
  simp
  omega
abbrev encI (n:Int):Value:=.int .i64 n
abbrev encW (n:Int):Value:=.int .u64 n
structure EP where
 d:Nat
 os:Array Obj
 deriving Inhabited
def ext (w:World) (p:EP):World:={ w with heap:=w.heap++p.os,drawn:=p.d }
theorem below_ext (w:World) (p:EP):Below w.heap.size w (ext w p):=
 ⟨rfl,rfl,rfl,by simp [ext],fun k hk=>by simp [ext,Array.getElem?_append,hk]⟩
theorem ext_of_below {w w':World} (h:Below w.heap.size w w'):∃p,w'=ext w p:=by
 refine ⟨⟨w'.drawn,w'.heap.extract w.heap.size w'.heap.size⟩,?_⟩
 have hh:w'.heap=w.heap++w'.heap.extract w.heap.size w'.heap.size:=by
  apply Array.ext_getElem?
  intro i
  rw [Array.getElem?_append]
  split
  ·rename_i hi;exact h.block i hi
  ·rename_i hi
   rw [Array.getElem?_extract]
   have hs:=h.size
   split
   ·congr 1;omega
   ·rename_i h2
    rw [Array.getElem?_eq_none (by omega)]
 cases w' with
 |mk hp tp dr os out=>
  obtain ⟨h1,h2,h3,h4,h5⟩:=h
  simp only at h1 h2 h3 hh
  subst h1 h2 h3
  unfold ext
  simp only
  rw [←hh]
theorem cell_ext {w:World} {a:Addr} {v:Value} (p:EP) (h:w.cell? a=some v):(ext w p).cell? a=some v:=cell_later (below_ext w p) h
theorem Calls.ext_of {P:Program} {f:FuncId} {args:Array Value} {w:World} {p:EP} {v:Value}
  (h:Calls P f args (ext w p) fun e w'=>e=.returned v∧Below (ext w p).heap.size (ext w p) w'):Calls P f args (ext w p) fun e w''=>e=.returned v∧∃p':EP,w''=ext w p':=
 h.mono fun _ _ ⟨he,hb⟩=>⟨he,ext_of_below ((below_ext w p).st hb)⟩
theorem Calls.ext_of_same {P:Program} {f:FuncId} {args:Array Value} {w:World} {p:EP} {v:Value}
  (h:Calls P f args (ext w p) fun e w'=>e=.returned v∧ext w p=w'):Calls P f args (ext w p) fun e w''=>e=.returned v∧∃p':EP,w''=ext w p':=
 h.mono fun _ _ ⟨he,hb⟩=>⟨he,p,hb.symm⟩
theorem wp_region_ext {P:Program} {id:Nat} {Q:Exit→Act→World→Prop} {a:Act} {w:World} {l:List Oper} (hm:P.follows .mixedOrders=true) (hB:Region.lexB .any l.toArray=true)
  (h:wpQuiet P l.toArray (fun w'=>∃p:EP,w'=ext w p) (fun a'=>∀w',(∃p:EP,w'=ext w p)→Q .normal a' w') l a):(Code.region id l.toArray true).wp P Q a w:=
 wp_region_quiet (C:=fun w'=>∃p:EP,w'=ext w p) hm hB (ext_of_below (below_drewN (Below.refl _ w) 1)) (by simpa using h)
def lit (n:Nat) (u:Nat→Value):Act:=⟨((List.range n).map u).toArray,[]⟩
theorem lit_of (n:Nat) (a:Act) (h:a.tmps.size=n) (hd:a.defers=[]):a=lit n (fun i=>a.tmps.getD i undef):=by
 cases a with
 |mk t d=>
  simp only at h hd
  subst hd
  unfold lit
  congr 1
  apply Array.ext
  ·simp [h]
  ·intro i h1 h2
   simp [h1]
def Exit.jumps (J:Nat→Act→World→Prop) (Q:Exit→Act→World→Prop):Exit→Act→World→Prop
 | .goto l,a,w=>J l a w
 |e,a,w=>Q e a w
section
variable {P:Program} {a:Act} {w:World} {Q:Exit→Act→World→Prop} {J:Nat→Act→World→Prop}
@[go_sem] theorem jumps_normal:Exit.jumps J Q .normal a w=Q .normal a w:=rfl
@[go_sem] theorem jumps_exit (id:Nat):Exit.jumps J Q (.exit id) a w=Q (.exit id) a w:=rfl
@[go_sem] theorem jumps_ret:Exit.jumps J Q .ret a w=Q .ret a w:=rfl
@[go_sem] theorem jumps_panic (ch:List PanicEntry):Exit.jumps J Q (.panic ch) a w=Q (.panic ch) a w:=rfl
@[go_sem] theorem jumps_goto (l:Nat):Exit.jumps J Q (.goto l) a w=J l a w:=rfl
theorem wp_scope_labels {c:Code} (n₀:Nat) (J:Nat→Nat→Act→World→Prop)
  (first:c.wp P (Exit.jumps (J n₀) Q) a w)
  (pass:∀n l a w,J n l a w→∃rest,findLabel c l=some rest∧rest.wp P (Exit.jumps (fun l' a' w'=>∃n',n'<n∧J n' l' a' w') Q) a w):(Code.scope c).wp P Q a w:=by
 intro b k cs
 have hg:∀l rest,findLabel c l=some rest→gotoIn l (.inScope c::k)=some (.code rest::.inScope c::k):=fun l rest hf=>by simp [gotoIn,hf]
 have key:∀n l a w,J n l a w→∃rest,findLabel c l=some rest∧∃e a' w',Q e a' w'∧Arrives P (lone (b.at a (.code rest::.inScope c::k)) cs w) b k cs e a' w':=by
  intro n
  induction n using Nat.strongRecOn with
  |_ n ih=>
   intro l a w hJ
   obtain ⟨rest,hf,hwp⟩:=pass n l a w hJ
   refine ⟨rest,hf,?_⟩
   obtain ⟨e,a₁,w₁,hq,harr⟩:=hwp b (.inScope c::k) cs
   cases e with
   |normal=>exact ⟨.normal,a₁,w₁,hq,Steps.trans harr (.one step_inScope)⟩
   |exit id=>exact ⟨.exit id,a₁,w₁,hq,fun k' hk=>harr k' (by simp [exitTo,hk])⟩
   |goto l'=>
    obtain ⟨n',hlt,hJ'⟩:=hq
    obtain ⟨rest',hf',e₂,a₂,w₂,hq₂,harr₂⟩:=ih n' hlt l' a₁ w₁ hJ'
    exact ⟨e₂,a₂,w₂,hq₂,.of_steps (harr _ (hg _ _ hf')) harr₂⟩
   |ret=>exact ⟨_,a₁,w₁,hq,harr⟩
   |panic ch=>exact ⟨_,a₁,w₁,hq,harr⟩
   |outgrown=>exact ⟨_,a₁,w₁,hq,harr⟩
 obtain ⟨e,a₁,w₁,hq,harr⟩:=first b (.inScope c::k) cs
 cases e with
 |normal=>exact ⟨.normal,a₁,w₁,hq,.head step_scope (Steps.trans harr (.one step_inScope))⟩
 |exit id=>exact ⟨.exit id,a₁,w₁,hq,fun k' hk=>.head step_scope (harr k' (by simp [exitTo,hk]))⟩
 |goto l'=>
  obtain ⟨rest',hf',e₂,a₂,w₂,hq₂,harr₂⟩:=key n₀ l' a₁ w₁ hq
  exact ⟨e₂,a₂,w₂,hq₂,.of_steps (.head step_scope (harr _ (hg _ _ hf'))) harr₂⟩
 |ret=>exact ⟨_,a₁,w₁,hq,.of_steps (.one step_scope) harr⟩
 |panic ch=>exact ⟨_,a₁,w₁,hq,.of_steps (.one step_scope) harr⟩
 |outgrown=>exact ⟨_,a₁,w₁,hq,.of_steps (.one step_scope) harr⟩
theorem wp_scope_into {c r:Code} (l₀ n₀:Nat) (J:Nat→Nat→Act→World→Prop) (hf:findLabel c l₀=some (.seq .skip r)) (hJ:∀n n' l a w,n≤n'→J n l a w→J n' l a w)
  (first:(∀a w,J n₀ l₀ a w→r.wp P (Exit.jumps (J n₀) Q) a w)→c.wp P (Exit.jumps (J n₀) Q) a w)
  (pass₀:∀n a w,J n l₀ a w→r.wp P (Exit.jumps (fun l' a' w'=>∃n',n'<n∧J n' l' a' w') Q) a w)
  (pass:∀n l a w,l≠l₀→J n l a w→∃rest,findLabel c l=some rest∧rest.wp P (Exit.jumps (fun l' a' w'=>∃n',n'<n∧J n' l' a' w') Q) a w):(Code.scope c).wp P Q a w:=by
 refine wp_scope_labels n₀ J (first ?_) ?_
 ·intro a w hj
  refine Code.wp_mono ?_ (pass₀ (n₀+1) a w (hJ _ _ _ _ _ (Nat.le_succ _) hj))
  intro e a w hq
  cases e with
  |goto l=>obtain ⟨n',hlt,hj'⟩:=hq;exact hJ _ _ _ _ _ (by omega) hj'
  |_=>exact hq
 ·intro n l a w hj
  by_cases hl:l=l₀
  ·subst hl
   refine ⟨_,hf,wp_seq_k ?_⟩
   intro K hK
   exact wp_skip (hK _ _ (pass₀ n a w hj))
  ·exact pass n l a w hl hj
end
def Elem (P:Program) (E:TypeId) (z:Value) (size bytes:Nat):Prop:=
 (P.info? E).map (fun i=>(i.zero,i.size,i.bytes))=some (some z,size,bytes)∧z.cells.size=size∧0<size
theorem owns_dr {w:World} {base:Nat} {e:TypeId} {size:Nat} {v:Value} {n:Nat} {xs:List Value} (h:w.ownsRow base e size v n xs) (q:Nat):(w.drewN q).ownsRow base e size v n xs:=h
theorem one_cells {u:Value} (h:u.oneCell'=true):∀x∈[u],x.oneCell'=true:=fun x hx=>by
 rw [List.mem_singleton.1 hx];exact h
theorem wpList_app {P:Program} {w:World} {ops:Array Oper} {rest:List Oper} {a:Act} {Q:Exit→Act→World→Prop} {d:Option Tmp} {t ty:TypeId} {s x:Operand} {pos:String} {aft:Array Edge}
  (base:Nat) (E:TypeId) (z:Value) (size bytes:Nat) (hE:Elem P E z size bytes) (ht:P.underlying t=some (.slice E))
  (v:Value) (n:Nat) (xs:List Value) (ad:Addr) (m c:Nat) (news:List Value) (hs:a.eval s=v) (hx:a.eval x=.slice (some ad) m c)
  (hown:w.ownsRow base E size v n xs) (hnews:∀j u,news[j]? =some u→w.cell? (ad.add j)=some u) (h1:∀u∈news,u.oneCell'=true)
  (hl:news.length=m*size∧0<m∧n+m≤9223372036854775807∧(n+m)*bytes≤140737488355328∧base≤w.heap.size)
  (hK:∀g cap w',w'.ownsRow base E size (.slice (some ⟨g,0,none⟩) (n+m) cap) (n+m) (xs++news)→w.grownBy w' v.ownBlock→Below base w w'→
   (v.ownBlock=some g∨g=w.heap.size)→g<w'.heap.size→wpList P ops Q rest (a.put d (.slice (some ⟨g,0,none⟩) (n+m) cap)) w'):
  wpList P ops Q (⟨d,.call { callee:=.builtin .append,args:=#[s,x],argTypes:=#[t,t] },ty,pos,aft,none⟩::rest) a w:=by
 obtain ⟨hE,hz1,hz2⟩:=hE
 obtain ⟨i,hi,hz,hsz,hby⟩:=info_parts hE
 obtain ⟨l1,l2,l3,l4,l5⟩:=hl
 refine wpList_append_lies w rfl s x t rfl base E i z size bytes ht hi hz hsz hby hz1 hz2 v n xs hs hown ad m c news hx l1 hnews h1 l2 (by unfold maxLen;omega) l4 l5 _ rfl ?_
 intro g cap w' ho hg hat hlt
 exact hK g cap w' ho hg ((Below.refl _ w).grown hg l5 (fun k hk=>(hown.lt k hk).1)) hat hlt
theorem wpList_mk {P:Program} {w:World} {ops:Array Oper} {rest:List Oper} {a:Act} {Q:Exit→Act→World→Prop} {d:Option Tmp} {t ty:TypeId} {l c:Operand} {pos:String} {aft:Array Edge}
  (base:Nat) (E:TypeId) (z:Value) (size bytes:Nat) (hE:Elem P E z size bytes) (ht:P.underlying t=some (.slice E))
  (n:Nat) (kl kc:IntKind) (L C:Int) (hl:a.eval l=.int kl L) (hc:a.eval c=.int kc C)
  (h:L=(n:Int)∧C=(n:Int)∧bytes*n≤281474976710656∧n≤9223372036854775807∧base≤w.heap.size)
  (hK:∀w',w'.ownsRow base E size (.slice (some ⟨w.heap.size,0,none⟩) n n) n (madeCells z.cells (n*size)).toList→Below w.heap.size w w'→w.heap.size<w'.heap.size→
   wpList P ops Q rest (a.put d (.slice (some ⟨w.heap.size,0,none⟩) n n)) w'):
  wpList P ops Q (⟨d,.makeSlice t l c,ty,pos,aft,none⟩::rest) a w:=by
 obtain ⟨hE,hz1,hz2⟩:=hE
 obtain ⟨i,hi,hz,hsz,hby⟩:=info_parts hE
 obtain ⟨h1,h2,h3,h4,h5⟩:=h
 refine wpList_make_full w rfl l c t rfl base E i z size ht hi hz hsz kl kc L C n hl hc h1 h2 (by rw [hby];exact h3) (by unfold maxLen;omega) h5 ?_
 intro w' ho hg
 refine hK w' ho ((Below.refl _ w).grown hg (Nat.le_refl _) (fun k hk=>by cases hk)) ?_
 rcases ho.2 with ⟨e,_⟩|⟨g,cap,cur,e,_,hgg,_⟩
 ·cases e
 ·cases e
  exact (Array.getElem?_eq_some_iff.1 hgg).1
end Go.Proofs.YteaaapdjplbljaaGreat
end
section
namespace Go.Proofs.YteaaapdjplbljaaGreat
open Go Go.Proofs Go.RowKit
section
variable {P:Program} {ops:Array Oper} {md:Region.Mode} {C:World→Prop}
def sinkFrom (md:Region.Mode) (ops:Array Oper) (m n:Nat):Bool:=
 (List.range n).all fun i=>decide (i<m)||(List.range (n+1)).any fun j=>decide (i<j)&&Region.waitsFor md ops j i
def Ahead (m:Nat) (listed:Array Bool):Prop:=∀i,i<m→listed.getD i true=true
theorem Ahead.set {m j:Nat} {listed:Array Bool} (h:Ahead m listed):Ahead m (listed.setIfInBounds j true):=by
 intro i hi
 by_cases e:j=i
 ·subst e
  rcases Nat.lt_or_ge j listed.size with h'|h'<;>simp [h']
 ·rw [getD_set_ne true e];exact h i hi
theorem tail_waits_from {m n:Nat} {listed:Array Bool} (hs:sinkFrom md ops m n=true) (hc:Region.chainB md ops n=true) (hn:n<ops.size) (inv:HeadInv md ops n listed) (hp:Ahead m listed):
  ∀(d i:Nat),n-i=d→i<n→listed.getD i true=false→∀t,n≤t→t∉Region.ready md ops listed:=by
 intro d
 induction d using Nat.strongRecOn with
 |_ d ih=>
  intro i hd hi hun t ht hr
  obtain ⟨_,ot,hot,hall⟩:=mem_ready.1 hr
  have htlt:t<ops.size:=(Array.getElem?_eq_some_iff.1 hot).1
  by_cases htn:t=n
  ·subst htn
   have h1:=List.all_eq_true.1 hs i (List.mem_range.2 hi)
   have him:¬i<m:=fun h=>by rw [hp i h] at hun;cases hun
   simp only [him,decide_false,Bool.false_or] at h1
   obtain ⟨j,hj,hj2⟩:=List.any_eq_true.1 h1
   simp only [Bool.and_eq_true,decide_eq_true_eq] at hj2
   obtain ⟨oj,hoj,e,he,hb,hon⟩:=Region.waitsFor_spec hj2.2
   have hjle:j≤t:=by have:=List.mem_range.1 hj;omega
   by_cases hjt:j=t
   ·subst hjt
    have:oj=ot:=Option.some.inj (hoj.symm.trans hot)
    subst this
    have h2:=hall e he hb
    rw [hon,getD_both hun] at h2
    cases h2
   ·cases hl:listed.getD j false with
    |true=>
     have h2:=inv.closed j oj hoj hl e he hb
     rw [hon,getD_both hun] at h2
     cases h2
    |false=>
     have hjs:j<listed.size:=by rw [inv.size];omega
     exact ih (t-j) (by omega) j rfl (by omega) (Go.getD_in hjs hl) t (Nat.le_refl _) hr
  ·have h1:=List.all_eq_true.1 hc t (List.mem_range.2 htlt)
   simp only [Bool.or_eq_true,decide_eq_true_eq] at h1
   rcases h1 with h1|h1
   ·omega
   ·obtain ⟨o',ho',e,he,hb,hon⟩:=Region.waitsFor_spec h1
    have:o'=ot:=Option.some.inj (ho'.symm.trans hot)
    subst this
    have h2:=hall e he hb
    rw [hon,getD_both (inv.tail (t-1) (by omega) (by omega))] at h2
    cases h2
def headQ (P:Program) (md:Region.Mode) (ops:Array Oper) (C:World→Prop) (n:Nat) (L:Array Bool→Act→Prop):Nat→Array Bool→Act→Prop
 |0,listed,a=>L listed a
 |f+1,listed,a=>
  Region.ready md ops listed≠[]∧∀i∈Region.ready md ops listed,i<n∧qOp P ops C i (headQ P md ops C n L f (listed.setIfInBounds i true)) a
theorem any_of_headQ {n g:Nat} {L:Array Bool→Act→Prop} {Q':Exit→Act→World→Prop} (hL:∀listed a w,C w→L listed a→wpAny P md ops Q' g listed a w):
  ∀(f:Nat) (listed:Array Bool) (a:Act) (w:World),C w→headQ P md ops C n L f listed a→wpAny P md ops Q' (f+g) listed a w
 |0,listed,a,w,hw,h=>by rw [Nat.zero_add];exact hL _ _ _ hw h
 |f+1,listed,a,w,hw,h=>by
  rw [show f+1+g=(f+g)+1 by omega]
  exact ⟨fun h0=>absurd h0 h.1,fun i hi=>wpOp_of_qOp hw (fun a' w' hw' h'=>any_of_headQ hL f _ a' w' hw' h') (h.2 i hi).2⟩
theorem headQ_first {m n i:Nat} {oi:Oper} {v:Value} {L:Array Bool→Act→Prop} (hi:ops[i]? =some oi) (hsel:∀(j:Nat) (o:Oper) cs b,ops[j]? =some o→o.op≠.select cs b)
  (hs:sinkFrom md ops m n=true) (hc:Region.chainB md ops n=true) (hn:n<ops.size) (hin:i<n)
  (hdone:∀listed a,L listed a→∀j∈Region.ready md ops listed,n≤j):
  ∀(f:Nat) (listed:Array Bool) (a:Act),HeadInv md ops n listed→Ahead m listed→
   (∀j oj,ops[j]? =some oj→j≠i→listed.getD j true=false→(∀e∈oj.after,Region.binds md e=true→e.on≠i)→oi.apart ops oj=true)→
   i∈Region.ready md ops listed→YieldsIn P ops C oi v a→
   headQ P md ops C n L f (listed.setIfInBounds i true) (a.put oi.dst v)→headQ P md ops C n L (f+1) listed a:=by
 intro f
 induction f with
 |zero=>
  intro listed a inv hp _ hr hy H
  have hun:=(mem_ready.1 hr).1
  refine ⟨fun h=>(by rw [h] at hr;cases hr),fun j hj=>?_⟩
  have hjn:j<n:=by
   rcases Nat.lt_or_ge j n with h|h
   ·exact h
   ·exact absurd hj (tail_waits_from hs hc hn inv hp _ i rfl hin hun j h)
  refine ⟨hjn,?_⟩
  by_cases hji:j=i
  ·subst hji;exact hy.qOp hi H
  ·have:=hdone _ _ H j (ready_mono hj hji)
   omega
 |succ f ih=>
  intro listed a inv hp hfree hr hy H
  have hun:=(mem_ready.1 hr).1
  refine ⟨fun h=>(by rw [h] at hr;cases hr),fun j hj=>?_⟩
  have hjn:j<n:=by
   rcases Nat.lt_or_ge j n with h|h
   ·exact h
   ·exact absurd hj (tail_waits_from hs hc hn inv hp _ i rfl hin hun j h)
  refine ⟨hjn,?_⟩
  by_cases hji:j=i
  ·subst hji;exact hy.qOp hi H
  ·have h1:=(H.2 j (ready_mono hj hji)).2
   obtain ⟨hjun,oj,hoj,hall⟩:=mem_ready.1 hj
   have hnot:∀e∈oj.after,Region.binds md e=true→e.on≠i:=fun e he hb heq=>by
    have h1:=hall e he hb
    rw [heq,getD_both hun] at h1
    cases h1
   have h2:=qOp_put hoj (hfree j oj hoj hji hjun hnot) (fun cs b=>hsel i oi cs b hi) (fun cs b=>hsel j oj cs b hoj) hy h1
   have hfree':∀k ok,ops[k]? =some ok→k≠i→(listed.setIfInBounds j true).getD k true=false→
     (∀e∈ok.after,Region.binds md e=true→e.on≠i)→oi.apart ops ok=true:=fun k ok hk hki hun hno=>by
    refine hfree k ok hk hki ?_ hno
    by_cases hjk:j=k
    ·subst hjk;exact hjun
    ·rw [getD_set_ne true hjk] at hun;exact hun
   refine qOp_mono (fun a' h3=>ih (listed.setIfInBounds j true) a' (inv.set hj hjn) hp.set hfree' (ready_mono hr (Ne.symm hji)) h3.1 ?_) h2
   rw [Array.setIfInBounds_comm _ _ hji]
   exact h3.2
theorem headQ_lex {m n g:Nat} {Lq:Act→Prop} (hsel:Region.noSelect ops=true) (hs:sinkFrom md ops m n=true) (hc:Region.chainB md ops n=true) (hn:n<ops.size):
  ∀(l:List Oper) (k:Nat) (listed:Array Bool) (a:Act),(∀j,j<l.length→l[j]? =ops[k+j]?)→k+l.length=n→HeadInv md ops n listed→Ahead m listed→
  Region.lexHead md ops g l.length k listed=true→wpQuiet P ops C Lq l a→
  headQ P md ops C n (fun listed' a'=>Region.seqB md ops g n listed'=true∧Lq a') l.length listed a
 |[],k,listed,a,_,hk,_,_,hB,h=>by
  have:k=n:=by simpa using hk
  subst this
  exact ⟨by simpa [Region.lexHead] using hB,h⟩
 |o::l,k,listed,a,hl,hk,inv,hp,hB,h=>by
  have h0:ops[k]? =some o:=by simpa using (hl 0 (by simp)).symm
  simp only [List.length_cons,Region.lexHead,Bool.and_eq_true] at hB
  obtain ⟨⟨hr,hf⟩,hB'⟩:=hB
  have hkn:k<n:=by simp only [List.length_cons] at hk;omega
  have hr':k∈Region.ready md ops listed:=by simpa using hr
  have hst:qOp P ops C k (wpQuiet P ops C Lq l) a:=by unfold qOp;simp only [h0];exact h
  obtain ⟨v,hy,hK⟩:=yieldsIn_of_qOp h0 hst
  exact headQ_first h0 (Region.noSelect_spec hsel) hs hc hn hkn (fun listed' a' hL=>seqB_ready hL.1) l.length listed a inv hp (Region.free_spec h0 hf) hr' hy
   (headQ_lex hsel hs hc hn l (k+1) _ _ (fun j hj=>by have:=hl (j+1) (by simp;omega);simpa [Nat.add_assoc,Nat.add_comm 1 j] using this) (by simp only [List.length_cons] at hk;omega) (inv.set hr' hkn) hp.set hB' hK)
theorem wp_region_qtail {id:Nat} {Q:Exit→Act→World→Prop} {a:Act} {w:World} {l:List Oper} (n:Nat) (hm:P.follows .mixedOrders=true) (hB:Region.lexTailB .any l.toArray n=true) (hC:C { w with drawn:=w.drawn+1 })
  (h:wpQuiet P l.toArray C (fun a'=>∀w',C w'→wpList P l.toArray Q (l.drop n) a' w') (l.take n) a):(Code.region id l.toArray true).wp P Q a w:=by
 simp only [Region.lexTailB,Bool.and_eq_true,decide_eq_true_eq] at hB
 obtain ⟨⟨⟨⟨hsel,hn⟩,hs⟩,hc⟩,hlex⟩:=hB
 have hn':n<l.length:=by simpa using hn
 have htl:(l.take n).length=n:=by simp;omega
 have hdl:(l.drop n).length=l.toArray.size-n:=by simp
 have inv0:HeadInv .any l.toArray n (Array.replicate l.toArray.size false):=
  ⟨by simp,fun j oj _ hl=>(by rw [getD_replicate_false] at hl;cases hl),fun t _ ht=>Go.getD_in (by simpa using ht) (getD_replicate_false _ _)⟩
 have hs0:sinkFrom .any l.toArray 0 n=true:=by
  unfold sinkFrom
  simpa [Region.sinkB] using hs
 have H:=headQ_lex (md:=.any) (C:=C) (m:=0) (g:=l.toArray.size-n) hsel hs0 hc hn (l.take n) 0 _ a (fun j hj=>by
  have hj':j<n:=by rw [htl] at hj;exact hj
  simp [hj']) (by simpa using htl) inv0 (fun i hi=>absurd hi (Nat.not_lt_zero _)) (by rw [htl];exact hlex) h
 refine wp_region_any hm ?_
 have:=any_of_headQ (Q':=Q) (g:=l.toArray.size-n) (fun listed a' w' hw hL=>by
  have:=wpAny_of_seq (md:=.any) (Q':=Q) (l.drop n) n listed a' w' (fun j=>by simp [List.getElem?_drop]) (by rw [hdl];exact hL.1) (hL.2 _ hw)
  rwa [hdl] at this) _ _ _ _ hC H
 rw [htl,show n+(l.toArray.size-n)=l.toArray.size by omega] at this
 exact this
def lexTail1B (md:Region.Mode) (ops:Array Oper) (n:Nat):Bool:=
 Region.noSelect ops&&decide (n<ops.size)&&sinkFrom md ops 1 n&&Region.chainB md ops n&&(decide (0<n)&&(Region.ready md ops (Array.replicate ops.size false)).contains 0&&Region.free md ops (Array.replicate ops.size false) 0)&&
  Region.lexHead md ops (ops.size-n) (n-1) 1 ((Array.replicate ops.size false).setIfInBounds 0 true)
theorem wp_region_qtail1 {id:Nat} {Q:Exit→Act→World→Prop} {a:Act} {w:World} {d:Option Tmp} {x:Operand} {ty:TypeId} {pos:String} {aft:Array Edge} {l:List Oper} (n:Nat) (hm:P.follows .mixedOrders=true)
  (hB:lexTail1B .any (⟨d,.move x,ty,pos,aft,none⟩::l).toArray (n+1)=true) (hC:C { w with drawn:=w.drawn+1 })
  (hQ:∀c a' w',Q (.panic c) (a'.put d (a.eval x)) w'→Q (.panic c) a' w')
  (h:wpQuiet P (⟨d,.move x,ty,pos,aft,none⟩::l).toArray C (fun a'=>∀w',C w'→wpList P (⟨d,.move x,ty,pos,aft,none⟩::l).toArray Q (l.drop n) a' w') (l.take n) (a.put d (a.eval x))):
  (Code.region id (⟨d,.move x,ty,pos,aft,none⟩::l).toArray true).wp P Q a w:=by
 simp only [lexTail1B,Bool.and_eq_true,decide_eq_true_eq] at hB
 obtain ⟨⟨⟨⟨⟨hsel,hn⟩,hs⟩,hc⟩,⟨_,hr0⟩,hf0⟩,hlex⟩:=hB
 have hn':n<l.length:=by simpa using hn
 have htl:(l.take n).length=n:=by simp;omega
 generalize hops:(⟨d,.move x,ty,pos,aft,none⟩::l).toArray=ops at*
 have hsz:ops.size=l.length+1:=by rw [←hops];simp
 have h0:ops[0]? =some ⟨d,.move x,ty,pos,aft,none⟩:=by rw [←hops];simp
 have hdl:(l.drop n).length=ops.size-(n+1):=by rw [hsz];simp
 have inv0:HeadInv .any ops (n+1) (Array.replicate ops.size false):=
  ⟨by simp,fun j oj _ hl=>(by rw [getD_replicate_false] at hl;cases hl),fun t _ ht=>Go.getD_in (by simpa using ht) (getD_replicate_false _ _)⟩
 have hr0':0∈Region.ready .any ops (Array.replicate ops.size false):=by simpa using hr0
 have hp:Ahead 1 ((Array.replicate ops.size false).setIfInBounds 0 true):=by
  intro i hi
  obtain rfl:i=0:=by omega
  simp [hsz]
 have H:=headQ_lex (md:=.any) (C:=C) (m:=1) (g:=ops.size-(n+1)) hsel hs hc hn (l.take n) 1 _ (a.put d (a.eval x)) (fun j hj=>by
  have hj':j<n:=by rw [htl] at hj;exact hj
  rw [←hops,Nat.add_comm 1 j]
  simp [hj']) (by rw [htl];omega) (inv0.set hr0' (by omega)) hp (by rw [htl];exact hlex) h
 refine wp_region_any hm ?_
 have H2:=any_of_headQ (Q':=Q) (g:=ops.size-(n+1)) (fun listed a' w' hw hL=>by
  have:=wpAny_of_seq (md:=.any) (Q':=Q) (l.drop n) (n+1) listed a' w' (fun j=>by rw [←hops,show n+1+j=(n+j)+1 by omega];simp [List.getElem?_drop]) (by rw [hdl];exact hL.1) (hL.2 _ hw)
  rwa [hdl] at this) _ _ _ _ hC H
 rw [htl] at H2
 have hy:Yields P ops ⟨d,.move x,ty,pos,aft,none⟩ (a.eval x) a:=.inl ⟨rfl,fun w'=>BigFrame.run_move (o:=⟨d,.move x,ty,pos,aft,none⟩) x rfl w'⟩
 have H3:=wpAny_take (fuel:=n+(ops.size-(n+1))) (Q:=Q) h0 hsel hf0 hr0 hQ hy H2
 rw [show n+(ops.size-(n+1))+1=ops.size by omega] at H3
 exact H3
end
theorem wp_region_ext_tail {P:Program} {id:Nat} {Q:Exit→Act→World→Prop} {a:Act} {w:World} {l:List Oper} (n:Nat) (hm:P.follows .mixedOrders=true) (hB:Region.lexTailB .any l.toArray n=true)
  (h:wpQuiet P l.toArray (fun w'=>∃p:EP,w'=ext w p) (fun a'=>∀w',(∃p:EP,w'=ext w p)→wpList P l.toArray Q (l.drop n) a' w') (l.take n) a):(Code.region id l.toArray true).wp P Q a w:=
 wp_region_qtail (C:=fun w'=>∃p:EP,w'=ext w p) n hm hB (ext_of_below (below_drewN (Below.refl _ w) 1)) h
theorem wp_region_ext_tail1 {P:Program} {id:Nat} {Q:Exit→Act→World→Prop} {a:Act} {w:World} {d:Option Tmp} {x:Operand} {ty:TypeId} {pos:String} {aft:Array Edge} {l:List Oper} (n:Nat) (hm:P.follows .mixedOrders=true)
  (hB:lexTail1B .any (⟨d,.move x,ty,pos,aft,none⟩::l).toArray (n+1)=true)
  (hQ:∀c a' w',Q (.panic c) (a'.put d (a.eval x)) w'→Q (.panic c) a' w')
  (h:wpQuiet P (⟨d,.move x,ty,pos,aft,none⟩::l).toArray (fun w'=>∃p:EP,w'=ext w p) (fun a'=>∀w',(∃p:EP,w'=ext w p)→wpList P (⟨d,.move x,ty,pos,aft,none⟩::l).toArray Q (l.drop n) a' w') (l.take n) (a.put d (a.eval x))):
  (Code.region id (⟨d,.move x,ty,pos,aft,none⟩::l).toArray true).wp P Q a w:=
 wp_region_qtail1 (C:=fun w'=>∃p:EP,w'=ext w p) n hm hB (ext_of_below (below_drewN (Below.refl _ w) 1)) hQ h
end Go.Proofs.YteaaapdjplbljaaGreat
end
