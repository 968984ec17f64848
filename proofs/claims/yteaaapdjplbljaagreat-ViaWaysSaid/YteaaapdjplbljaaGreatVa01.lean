/- Parts; no condition. -/
import Derived.WalkKit
import Derived.WalkLawsBesides
import Derived.WalkSpells
import Derived.Outline
import Derived.Lib.Hide
import Derived.Shelf.Abstract
import Derived.Deep.LoopGhost
import Derived.Deep.Quiet
import Derived.Deep.QuietTactic
import Derived.BigQuiet
import Derived.Deep.AppendLies
import Derived.Deep.RegionWith
import Derived.Deep.RegionHeld3
import Derived.ScopeJumps
set_option linter.unusedVariables false
set_option linter.unusedSimpArgs false
set_option linter.unnecessarySimpa false
set_option maxRecDepth 100000
set_option maxHeartbeats 8000000
namespace Go.Proofs.YteaaapdjplbljaaGreat
section
open RowKit Shelf
abbrev Bj3:=@Lib.hid
abbrev Bj4:=@cell_later
abbrev Bj5:=@Nat.le_refl
abbrev Bj6:=@Nat.zero_le
abbrev Bj7:=@Nat.le_trans
abbrev Bj8:=@List.getElem?_eq_getElem
abbrev Bj9:=@List.getD_eq_getElem?_getD
abbrev Bk0:=@Array.getElem?_eq_some_iff
abbrev Bk1:=@World.cell?_setCell_other
abbrev Bk2:=@World.cell?_setCell_same
abbrev Bk3:=@World.block_lt_of_cell?
abbrev Bk4:=@List.length_set
abbrev Bk5:=@List.getElem_mem
abbrev Bk6:=@List.getElem?_eq_some_iff
abbrev Bk7:=@Int.toNat_natCast
abbrev Bk8:=@List.length_cons
abbrev Bk9:=@List.length_nil
abbrev Bl0:=@List.mem_singleton
abbrev Bl1:=@List.take_succ_eq_append_getElem
abbrev Bl2:=@List.getElem?_map
abbrev Bl3:=@List.setIfInBounds_toArray
abbrev Bl4:=@List.getElem?_cons_succ
abbrev Bl5:=@List.getElem?_cons_zero
abbrev Bl6:=@List.set_cons_zero
abbrev Bl7:=@List.set_cons_succ
abbrev Bl8:=@Option.getD_some
abbrev Bl9:=@Option.bind_some
abbrev Bm0:=@World.cell?_of_block
abbrev Bm1:=@List.mem_of_getElem?
abbrev Bm2:=@Option.some.inj
abbrev Bm3:=@List.length_append
abbrev Bm4:=@List.length_replicate
abbrev Bm5:=@List.mem_cons
abbrev Bm6:=@List.mem_append
abbrev Bm7:=@List.mem_range
abbrev Bm8:=@Array.getD_eq_getD_getElem?
abbrev Bm9:=@World.frozen?_setCell
abbrev Bn0:=@List.getElem?_eq_none
abbrev Bn1:=@List.getElem?_append_right
abbrev Bn2:=@List.getElem?_append_left
abbrev Bn3:=@List.getElem?_replicate
abbrev Bn4:=@List.map_append
abbrev Bn5:=@List.length_map
abbrev Bn6:=@List.append_assoc
abbrev Bn7:=@List.mem_iff_getElem
abbrev Bn8:=@World.cell?_setCell_far
abbrev Bn9:=@List.take_length
abbrev Bo0:=@Int.toNat_of_nonneg
abbrev Bo1:=@List.getElem?_set_ne
abbrev Bo2:=@List.getElem?_set_self
abbrev Bo3:=@List.pairwise_append
abbrev Bo4:=@List.getElem?_take_of_lt
abbrev Bo5:=@IntKind.wrap_u64
end
section
open Go.Proofs Go.RowKit Go.Shelf
def Cel (w:World) (ao:Option Addr) (cs:List Value):Prop:=
 ∀i u,cs[i]? =some u->∃b o,ao=some ⟨b,o,none⟩/\w.cell? ⟨b,o+i,none⟩=some u
theorem _root_.Go.RowKit.Below.st {w a b:World} (h:Below w.heap.size w a) (k:Below a.heap.size a b):Below w.heap.size w b:=h.trans (k.mono h.size)
theorem _root_.Go.RowKit.Below.al {w a:World} (h:Below w.heap.size w a) (o:Obj):Below w.heap.size w (a.alloc o):=h.alloc h.size o
theorem _root_.Go.RowKit.Below.dr {w a:World} (h:Below w.heap.size w a) (n:Nat):Below w.heap.size w (a.drewN n):=below_drewN h n
theorem _root_.Go.RowKit.Below.of_dr (w:World) (n:Nat):Below w.heap.size w (w.drewN n):=below_drewN (Below.refl _ _) n
theorem _root_.Go.RowKit.Below.of_al (w:World) (o:Obj):Below w.heap.size w (w.alloc o):=(Below.refl _ _).al o
theorem Cel.nil (w:World) (ao:Option Addr):Cel w ao []:=fun i u h=>by simp at h
theorem Cel.below {w w':World} {ao:Option Addr} {cs:List Value} {B:Nat} (h:Cel w ao cs) (hb:Below B w w') (hB:w.heap.size<=B):Cel w' ao cs:=by
 intro i u hu;obtain ⟨b,o,e,hc⟩:=h i u hu;exact ⟨b,o,e,Bj4 (hb.mono hB) hc⟩
theorem Cel.at {α:Type} {w:World} {ao:Option Addr} {l:List α} {enc:α->Value} (h:Cel w ao (l.map enc)) {i:Nat} (hi:i<l.length):
  ∃b o,ao=some ⟨b,o,none⟩/\w.cell? ⟨b,o+i,none⟩=some (enc l[i]):=
 h i _ (by simp [hi])
theorem Cel.go {w w':World} {ao:Option Addr} {cs:List Value} (h:Cel w ao cs) (hb:Below w.heap.size w w'):Cel w' ao cs:=h.below hb (Bj5 _)
theorem Cel.of_owns {w:World} {base:Nat} {e:TypeId} {size n:Nat} {v:Value} {xs:List Value} (h:w.ownsRow base e size v n xs):
  ∃ao cap,v=.slice ao n cap/\Cel w ao xs:=by
 have h2:=h.2
 rcases h2 with ⟨rfl,rfl⟩|⟨g,cap,cur,rfl,hb,hg,rest⟩
 ·refine ⟨none,0,rfl,?_⟩
  have:xs=[]:=List.eq_nil_of_length_eq_zero (by simpa using h.1);subst this;exact Cel.nil _ _
 ·refine ⟨_,cap,rfl,fun i u hu=>⟨g,0,rfl,?_⟩⟩
  have:=h.cells (g:=g) rfl i u hu;rw [Addr.add_lit] at this;exact this
theorem ne_i {x y:Int} (h:(x != y)=true):x≠y:=by simpa using h
theorem eq_i {x y:Int} (h:(x != y)=false):x=y:=by simpa using h
def Mb {α:Type} (P:Program) (g:Nat) (cb:Array Value) (enc:α->Value) (p:α->Bool) (l:List α) (w:World):Prop:=
 ∀(W:World) (x:α),Below w.heap.size w W->x∈l->Calls P g (#[enc x]++cb) W fun e w'=>e=.returned (.bool (p x))/\Below W.heap.size W w'
def Fr {α:Type} (p:α->Bool):List α->Int
 |[]=>-1
 |x::r=>if p x then 0 else if Fr p r<0 then -1 else Fr p r+1
theorem Aj1 {α:Type} (p:α->Bool):∀l:List α,-1<=Fr p l
 |[]=>by simp [Fr]
 |x::r=>by
  have:=Aj1 p r;unfold Fr
  split
  ·omega
  ·split<;>omega
theorem Rz {α:Type} (p:α->Bool):∀l:List α,decide (0<=Fr p l)=l.any p
 |[]=>by simp [Fr]
 |x::r=>by
  have h:=Rz p r;unfold Fr
  by_cases hp:p x=true
  ·simp [hp]
  ·rw [Bool.eq_false_iff.2 hp,List.any_cons,<-h]
   have:=Aj1 p r;rw [Bool.eq_false_iff.2 hp,Bool.false_or];simp only [Bool.false_eq_true,if_false]
   split<;>(congr 1;apply propext;omega)
theorem Hj {α:Type} (p:α->Bool):∀l:List α,(∀j (h:j<l.length),p l[j]=false)->Fr p l= -1
 |[],_=>rfl
 |x::r,h=>by
  unfold Fr;rw [show p x=false from h 0 (by simp),Hj p r (fun j hj=>h (j+1) (by simpa using hj))];simp
theorem Ju {α:Type} (p:α->Bool):∀(l:List α) (k:Nat) (hk:k<l.length),p l[k]=true->(∀j (h:j<l.length),j<k->p l[j]=false)->Fr p l=(k:Int)
 |x::r,0,_,h,_=>by unfold Fr;rw [show p x=true from h];rfl
 |x::r,k+1,hk,h,hb=>by
  unfold Fr;rw [show p x=false from hb 0 (by simp) (by omega),Ju p r k (by simpa using hk) h (fun j hj h2=>hb (j+1) (by simpa using hj) (by omega))];simp;omega
abbrev Ai (n:Int):Value:=.int .i64 n
abbrev Bi (n:Int):Value:=.int .u64 n
structure EP where
 d:Nat
 os:Array Obj
 deriving Inhabited
def ext (w:World) (p:EP):World:={ w with heap:=w.heap++p.os,drawn:=p.d }
theorem Ah (w:World) (p:EP):Below w.heap.size w (ext w p):=
 ⟨rfl,rfl,rfl,by simp [ext],fun k hk=>by simp [ext,Array.getElem?_append,hk]⟩
theorem Fs {w w':World} (h:Below w.heap.size w w'):∃p,w'=ext w p:=by
 refine ⟨⟨w'.drawn,w'.heap.extract w.heap.size w'.heap.size⟩,?_⟩;have hh:w'.heap=w.heap++w'.heap.extract w.heap.size w'.heap.size:=by
  apply Array.ext_getElem?
  intro i;rw [Array.getElem?_append]
  split
  ·rename_i hi;exact h.block i hi
  ·rename_i hi
   rw [Array.getElem?_extract];have hs:=h.size
   split
   ·congr 1;omega
   ·rename_i h2
    rw [Array.getElem?_eq_none (by omega)]
 cases w' with
 |mk hp tp dr os out=>
  obtain ⟨h1,h2,h3,h4,h5⟩:=h;simp only at h1 h2 h3 hh;subst h1 h2 h3;unfold ext;simp only;rw [<-hh]
theorem Ab {w:World} {a:Addr} {v:Value} (p:EP) (h:w.cell? a=some v):(ext w p).cell? a=some v:=Bj4 (Ah w p) h
theorem Calls.ext_of {P:Program} {f:FuncId} {args:Array Value} {w:World} {p:EP} {v:Value}
  (h:Calls P f args (ext w p) fun e w'=>e=.returned v/\Below (ext w p).heap.size (ext w p) w'):Calls P f args (ext w p) fun e w''=>e=.returned v/\∃p':EP,w''=ext w p':=
 h.mono fun _ _ ⟨he,hb⟩=>⟨he,Fs ((Ah w p).st hb)⟩
theorem Calls.ext_of_same {P:Program} {f:FuncId} {args:Array Value} {w:World} {p:EP} {v:Value}
  (h:Calls P f args (ext w p) fun e w'=>e=.returned v/\ext w p=w'):Calls P f args (ext w p) fun e w''=>e=.returned v/\∃p':EP,w''=ext w p':=
 h.mono fun _ _ ⟨he,hb⟩=>⟨he,p,hb.symm⟩
theorem Af {P:Program} {id:Nat} {Q:Exit->Act->World->Prop} {a:Act} {w:World} {l:List Oper} (hm:P.follows .mixedOrders=true) (hB:Region.lexB .any l.toArray=true)
  (h:wpQuiet P l.toArray (fun w'=>∃p:EP,w'=ext w p) (fun a'=>∀w',(∃p:EP,w'=ext w p)->Q .normal a' w') l a):(Code.region id l.toArray true).wp P Q a w:=
 wp_region_quiet (C:=fun w'=>∃p:EP,w'=ext w p) hm hB (Fs (below_drewN (Below.refl _ w) 1)) (by simpa using h)
def lit (n:Nat) (u:Nat->Value):Act:=⟨((List.range n).map u).toArray,[]⟩
theorem Ac9 (n:Nat) (a:Act) (h:a.tmps.size=n) (hd:a.defers=[]):a=lit n (fun i=>a.tmps.getD i undef):=by
 cases a with
 |mk t d=>
  simp only at h hd;subst hd;unfold lit
  congr 1
  apply Array.ext
  ·simp [h]
  ·intro i h1 h2
   simp [h1]
def Exit.jumps (J:Nat->Act->World->Prop) (Q:Exit->Act->World->Prop):Exit->Act->World->Prop
 | .goto l,a,w=>J l a w
 |e,a,w=>Q e a w
section
variable {P:Program} {a:Act} {w:World} {Q:Exit->Act->World->Prop} {J:Nat->Act->World->Prop}
@[go_sem] theorem Bc6:Exit.jumps J Q .normal a w=Q .normal a w:=rfl
@[go_sem] theorem Bg6 (id:Nat):Exit.jumps J Q (.exit id) a w=Q (.exit id) a w:=rfl
@[go_sem] theorem Ux:Exit.jumps J Q .ret a w=Q .ret a w:=rfl
@[go_sem] theorem Be2 (ch:List PanicEntry):Exit.jumps J Q (.panic ch) a w=Q (.panic ch) a w:=rfl
@[go_sem] theorem Ly (l:Nat):Exit.jumps J Q (.goto l) a w=J l a w:=rfl
theorem Pq {c:Code} (n₀:Nat) (J:Nat->Nat->Act->World->Prop)
  (first:c.wp P (Exit.jumps (J n₀) Q) a w)
  (pass:∀n l a w,J n l a w->∃rest,findLabel c l=some rest/\rest.wp P (Exit.jumps (fun l' a' w'=>∃n',n'<n/\J n' l' a' w') Q) a w):(Code.scope c).wp P Q a w:=by
 intro b k cs;have hg:∀l rest,findLabel c l=some rest->gotoIn l (.inScope c::k)=some (.code rest::.inScope c::k):=fun l rest hf=>by simp [gotoIn,hf]
 have key:∀n l a w,J n l a w->∃rest,findLabel c l=some rest/\∃e a' w',Q e a' w'/\Arrives P (lone (b.at a (.code rest::.inScope c::k)) cs w) b k cs e a' w':=by
  intro n
  induction n using Nat.strongRecOn with
  |_ n ih=>
   intro l a w hJ;obtain ⟨rest,hf,hwp⟩:=pass n l a w hJ;refine ⟨rest,hf,?_⟩;obtain ⟨e,a₁,w₁,hq,harr⟩:=hwp b (.inScope c::k) cs
   cases e with
   |normal=>exact ⟨.normal,a₁,w₁,hq,Steps.trans harr (.one step_inScope)⟩
   |exit id=>exact ⟨.exit id,a₁,w₁,hq,fun k' hk=>harr k' (by simp [exitTo,hk])⟩
   |goto l'=>
    obtain ⟨n',hlt,hJ'⟩:=hq;obtain ⟨rest',hf',e₂,a₂,w₂,hq₂,harr₂⟩:=ih n' hlt l' a₁ w₁ hJ';exact ⟨e₂,a₂,w₂,hq₂,.of_steps (harr _ (hg _ _ hf')) harr₂⟩
   |ret=>exact ⟨_,a₁,w₁,hq,harr⟩
   |panic ch=>exact ⟨_,a₁,w₁,hq,harr⟩
   |outgrown=>exact ⟨_,a₁,w₁,hq,harr⟩
 obtain ⟨e,a₁,w₁,hq,harr⟩:=first b (.inScope c::k) cs
 cases e with
 |normal=>exact ⟨.normal,a₁,w₁,hq,.head step_scope (Steps.trans harr (.one step_inScope))⟩
 |exit id=>exact ⟨.exit id,a₁,w₁,hq,fun k' hk=>.head step_scope (harr k' (by simp [exitTo,hk]))⟩
 |goto l'=>
  obtain ⟨rest',hf',e₂,a₂,w₂,hq₂,harr₂⟩:=key n₀ l' a₁ w₁ hq;exact ⟨e₂,a₂,w₂,hq₂,.of_steps (.head step_scope (harr _ (hg _ _ hf'))) harr₂⟩
 |ret=>exact ⟨_,a₁,w₁,hq,.of_steps (.one step_scope) harr⟩
 |panic ch=>exact ⟨_,a₁,w₁,hq,.of_steps (.one step_scope) harr⟩
 |outgrown=>exact ⟨_,a₁,w₁,hq,.of_steps (.one step_scope) harr⟩
theorem Lf {c r:Code} (l₀ n₀:Nat) (J:Nat->Nat->Act->World->Prop) (hf:findLabel c l₀=some (.seq .skip r)) (hJ:∀n n' l a w,n<=n'->J n l a w->J n' l a w)
  (first:(∀a w,J n₀ l₀ a w->r.wp P (Exit.jumps (J n₀) Q) a w)->c.wp P (Exit.jumps (J n₀) Q) a w)
  (pass₀:∀n a w,J n l₀ a w->r.wp P (Exit.jumps (fun l' a' w'=>∃n',n'<n/\J n' l' a' w') Q) a w)
  (pass:∀n l a w,l≠l₀->J n l a w->∃rest,findLabel c l=some rest/\rest.wp P (Exit.jumps (fun l' a' w'=>∃n',n'<n/\J n' l' a' w') Q) a w):(Code.scope c).wp P Q a w:=by
 refine Pq n₀ J (first ?_) ?_
 ·intro a w hj
  refine Code.wp_mono ?_ (pass₀ (n₀+1) a w (hJ _ _ _ _ _ (Nat.le_succ _) hj));intro e a w hq
  cases e with
  |goto l=>obtain ⟨n',hlt,hj'⟩:=hq;exact hJ _ _ _ _ _ (by omega) hj'
  |_=>exact hq
 ·intro n l a w hj
  by_cases hl:l=l₀
  ·subst hl
   refine ⟨_,hf,wp_seq_k ?_⟩;intro K hK;exact wp_skip (hK _ _ (pass₀ n a w hj))
  ·exact pass n l a w hl hj
end
def Gl (P:Program) (E:TypeId) (z:Value) (size bytes:Nat):Prop:=
 (P.info? E).map (fun i=>(i.zero,i.size,i.bytes))=some (some z,size,bytes)/\z.cells.size=size/\0<size
theorem Pz {w:World} {base:Nat} {e:TypeId} {size:Nat} {v:Value} {n:Nat} {xs:List Value} (h:w.ownsRow base e size v n xs) (q:Nat):(w.drewN q).ownsRow base e size v n xs:=h
theorem Cv {u:Value} (h:u.oneCell'=true):∀x∈[u],x.oneCell'=true:=fun x hx=>by
 rw [Bl0.1 hx];exact h
theorem Du {P:Program} {w:World} {ops:Array Oper} {rest:List Oper} {a:Act} {Q:Exit->Act->World->Prop} {d:Option Tmp} {t ty:TypeId} {s x:Operand} {pos:String} {aft:Array Edge}
  (base:Nat) (E:TypeId) (z:Value) (size bytes:Nat) (hE:Gl P E z size bytes) (ht:P.underlying t=some (.slice E))
  (v:Value) (n:Nat) (xs:List Value) (ad:Addr) (m c:Nat) (news:List Value) (hs:a.eval s=v) (hx:a.eval x=.slice (some ad) m c)
  (hown:w.ownsRow base E size v n xs) (hnews:∀j u,news[j]? =some u->w.cell? (ad.add j)=some u) (h1:∀u∈news,u.oneCell'=true)
  (hl:news.length=m*size/\0<m/\n+m<=9223372036854775807/\(n+m)*bytes<=140737488355328/\base<=w.heap.size)
  (hK:∀g cap w',w'.ownsRow base E size (.slice (some ⟨g,0,none⟩) (n+m) cap) (n+m) (xs++news)->w.grownBy w' v.ownBlock->Below base w w'->
   (v.ownBlock=some g\/g=w.heap.size)->g<w'.heap.size->wpList P ops Q rest (a.put d (.slice (some ⟨g,0,none⟩) (n+m) cap)) w'):
  wpList P ops Q (⟨d,.call { callee:=.builtin .append,args:=#[s,x],argTypes:=#[t,t] },ty,pos,aft,none⟩::rest) a w:=by
 obtain ⟨hE,hz1,hz2⟩:=hE;obtain ⟨i,hi,hz,hsz,hby⟩:=info_parts hE;obtain ⟨l1,l2,l3,l4,l5⟩:=hl;refine wpList_append_lies w rfl s x t rfl base E i z size bytes ht hi hz hsz hby hz1 hz2 v n xs hs hown ad m c news hx l1 hnews h1 l2 (by unfold maxLen;omega) l4 l5 _ rfl ?_;intro g cap w' ho hg hat hlt;exact hK g cap w' ho hg ((Below.refl _ w).grown hg l5 (fun k hk=>(hown.lt k hk).1)) hat hlt
theorem Dx {P:Program} {w:World} {ops:Array Oper} {rest:List Oper} {a:Act} {Q:Exit->Act->World->Prop} {d:Option Tmp} {t ty:TypeId} {l c:Operand} {pos:String} {aft:Array Edge}
  (base:Nat) (E:TypeId) (z:Value) (size bytes:Nat) (hE:Gl P E z size bytes) (ht:P.underlying t=some (.slice E))
  (n:Nat) (kl kc:IntKind) (L C:Int) (hl:a.eval l=.int kl L) (hc:a.eval c=.int kc C)
  (h:L=(n:Int)/\C=(n:Int)/\bytes*n<=281474976710656/\n<=9223372036854775807/\base<=w.heap.size)
  (hK:∀w',w'.ownsRow base E size (.slice (some ⟨w.heap.size,0,none⟩) n n) n (madeCells z.cells (n*size)).toList->Below w.heap.size w w'->w.heap.size<w'.heap.size->
   wpList P ops Q rest (a.put d (.slice (some ⟨w.heap.size,0,none⟩) n n)) w'):
  wpList P ops Q (⟨d,.makeSlice t l c,ty,pos,aft,none⟩::rest) a w:=by
 obtain ⟨hE,hz1,hz2⟩:=hE;obtain ⟨i,hi,hz,hsz,hby⟩:=info_parts hE;obtain ⟨h1,h2,h3,h4,h5⟩:=h;refine wpList_make_full w rfl l c t rfl base E i z size ht hi hz hsz kl kc L C n hl hc h1 h2 (by rw [hby];exact h3) (by unfold maxLen;omega) h5 ?_;intro w' ho hg;refine hK w' ho ((Below.refl _ w).grown hg (Bj5 _) (fun k hk=>by cases hk)) ?_
 rcases ho.2 with ⟨e,_⟩|⟨g,cap,cur,e,_,hgg,_⟩
 ·cases e
 ·cases e
  exact (Bk0.1 hgg).1
theorem As6 {P:Program} {w:World} {ops:Array Oper} {o:Oper} {a:Act} {K:Act->World->Prop} {Q:Exit->Act->World->Prop} {F:Prop} (hgd:o.guard=none) (s x:Operand) (t:TypeId)
  (ho:o.op=.call { callee:=.builtin .append,args:=#[s,x],argTypes:=#[t,t] })
  (base:Nat) (E:TypeId) (z:Value) (size bytes:Nat) (hE:Gl P E z size bytes) (ht:P.underlying t=some (.slice E))
  (v:Value) (n:Nat) (xs:List Value) (ad:Addr) (m c:Nat) (news:List Value) (hs:a.eval s=v) (hx:a.eval x=.slice (some ad) m c)
  (hown:w.ownsRow base E size v n xs) (hnews:∀j u,news[j]? =some u->w.cell? (ad.add j)=some u) (h1:∀u∈news,u.oneCell'=true)
  (hl:news.length=m*size/\0<m/\n+m<=9223372036854775807/\(n+m)*bytes<=140737488355328/\base<=w.heap.size)
  (h:∀g cap w',w'.ownsRow base E size (.slice (some ⟨g,0,none⟩) (n+m) cap) (n+m) (xs++news)->base<=g->Below base w w'->K (a.put o.dst (.slice (some ⟨g,0,none⟩) (n+m) cap)) w'):
  if Region.wanted o (yielded ops a.tmps)=true then Oper.wp P o a w K Q else F:=by
 obtain ⟨hE,hz1,hz2⟩:=hE;obtain ⟨i,hi,hz,hsz,hby⟩:=info_parts hE;obtain ⟨l1,l2,l3,l4,l5⟩:=hl;refine step_append_lies w hgd s x t ho base E i z size bytes ht hi hz hsz hby hz1 hz2 v n xs hs hown ad m c news hx l1 hnews h1 l2 (by unfold maxLen;omega) l4 l5 _ rfl ?_;intro g cap w' ho hg hat hlt;refine h g cap w' ho ?_ ((Below.refl _ w).grown hg l5 (fun k hk=>(hown.lt k hk).1));exact (ho.lt g rfl).1
end
section
namespace Ch
inductive Way (A:Int->Int->Int->Prop) (p:Int->Prop):Int->Int->Int->Prop
 |one {u v w:Int}:A u v w->Way A p u v w
 |cons {u m v w d:Int}:A u m w->p m->Way A p m v d->Way A p u v (w+d)
variable {A B:Int->Int->Int->Prop} {p q:Int->Prop} {u v m s t:Int} {d e:Int}
theorem Way.mono (hA:∀u v w,A u v w->B u v w) (hp:∀m,p m->q m) (h:Way A p u v d):Way B q u v d:=by
 induction h with
 |one h=>exact .one (hA _ _ _ h)
 |cons h1 h2 _ ih=>exact .cons (hA _ _ _ h1) (hp _ h2) ih
theorem Way.imp (hp:∀m,p m->q m) (h:Way A p u v d):Way A q u v d:=h.mono (fun _ _ _ h=>h) hp
theorem Way.trans (h:Way A p u m d) (hm:p m) (k:Way A p m v e):Way A p u v (d+e):=by
 induction h with
 |one h=>exact .cons h hm k
 |cons h1 h2 _ ih=>rw [Int.add_assoc];exact .cons h1 h2 (ih hm k)
theorem Way.snoc (h:Way A p u m d) (hm:p m) {w:Int} (k:A m v w):Way A p u v (d+w):=h.trans hm (.one k)
theorem Way.pos (hA:∀u v w,A u v w->1<=w) (h:Way A p u v d):1<=d:=by
 induction h with
 |one h=>exact hA _ _ _ h
 |cons h1 _ _ ih=>have:=hA _ _ _ h1;omega
def Pv (A:Int->Int->Int->Prop):Int->Int->Int->Prop:=fun u v w=>A v u w
theorem Way.turn (h:Way A p u v d):Way (Pv A) p v u d:=by
 induction h with
 |one h=>exact .one h
 |cons h1 h2 _ ih=>rw [Int.add_comm];exact ih.snoc h2 h1
def Way0 (A:Int->Int->Int->Prop) (p:Int->Prop) (u v d:Int):Prop:=(u=v/\d=0)\/Way A p u v d
theorem Way0.imp (hp:∀m,p m->q m) (h:Way0 A p u v d):Way0 A q u v d:=Or.imp id (Way.imp hp) h
theorem Way0.nonneg (hA:∀u v w,A u v w->1<=w) (h:Way0 A p u v d):0<=d:=by
 rcases h with ⟨_,rfl⟩|h
 ·exact Int.le_refl _
 ·have:=h.pos hA;omega
theorem Way0.trans (h:Way0 A p u m d) (hm:p m) (k:Way0 A p m v e):Way0 A p u v (d+e):=by
 rcases h with ⟨rfl,rfl⟩|h
 ·rw [Int.zero_add];exact k
 ·rcases k with ⟨rfl,rfl⟩|k
  ·rw [Int.add_zero];exact .inr h
  ·exact .inr (h.trans hm k)
theorem Way0.turn (h:Way0 A p u v d):Way0 (Pv A) p v u d:=by
 rcases h with ⟨rfl,rfl⟩|h
 ·exact .inl ⟨rfl,rfl⟩
 ·exact .inr h.turn
abbrev Any:Int->Prop:=fun _=>True
def Dist (A:Int->Int->Int->Prop) (u v d:Int):Prop:=Way0 A Any u v d/\∀e,Way0 A Any u v e->d<=e
theorem Dist.uniq (h:Dist A u v d) (k:Dist A u v e):d=e:=Int.le_antisymm (h.2 _ k.1) (k.2 _ h.1)
theorem Dist.self (hA:∀u v w,A u v w->1<=w) (u:Int):Dist A u u 0:=⟨.inl ⟨rfl,rfl⟩,fun _ h=>h.nonneg hA⟩
theorem Dist.turn (h:Dist A u v d):Dist (Pv A) v u d:=⟨h.1.turn,fun e k=>h.2 e k.turn⟩
theorem Dist.parts {a b:Int} (h:Dist A u v (a+b)) (h1:Way0 A Any u m a) (h2:Way0 A Any m v b):Dist A u m a/\Dist A m v b:=
 ⟨⟨h1,fun e k=>by have:=h.2 _ (k.trans trivial h2);omega⟩,⟨h2,fun e k=>by have:=h.2 _ (h1.trans trivial k);omega⟩⟩
theorem Way.top (r:Int->Int) (h:Way A p u v d):∃x a b,d=a+b/\Way A (fun m=>p m/\r m<r x) x v b/\((x=u/\a=0)\/(p x/\r u<=r x/\Way A (fun m=>p m/\r m<=r x) u x a)):=by
 induction h with
 |@one u v w h=>exact ⟨u,0,w,by omega,.one h,.inl ⟨rfl,rfl⟩⟩
 |@cons u m v w d h1 h2 h3 ih=>
  obtain ⟨x,a,b,rfl,hb,hx⟩:=ih
  by_cases hu:r x<r u
  ·refine ⟨u,0,w+(a+b),by omega,?_,.inl ⟨rfl,rfl⟩⟩
   have hb':Way A (fun m=>p m/\r m<r u) x v b:=hb.imp fun k hk=>⟨hk.1,by omega⟩
   rcases hx with ⟨rfl,rfl⟩|⟨px,hx1,hx2⟩
   ·rw [Int.zero_add]
    exact .cons h1 ⟨h2,hu⟩ hb'
   ·exact .cons h1 ⟨h2,by omega⟩ ((hx2.imp fun k hk=>⟨hk.1,by omega⟩).trans ⟨px,hu⟩ hb')
  ·refine ⟨x,w+a,b,by omega,hb,.inr ?_⟩
   rcases hx with ⟨rfl,rfl⟩|⟨px,hx1,hx2⟩
   ·rw [Int.add_zero]
    exact ⟨h2,by omega,.one h1⟩
   ·exact ⟨px,by omega,.cons h1 ⟨h2,by omega⟩ hx2⟩
structure Hier (A S:Int->Int->Int->Prop) (r:Int->Int) (N:Int->Prop):Prop where
 sound:∀u v w,S u v w->u≠v/\Way A (fun m=>r m<r u/\r m<r v) u v w
 full:∀u v w,u≠v->Dist A u v w->Way A (fun m=>r m<r u/\r m<r v) u v w->S u v w
 pos:∀u v w,A u v w->1<=w
 node:∀u v w,A u v w->N u/\N v
 inj:∀u v,N u->N v->r u=r v->u=v
theorem Way.nodes {N:Int->Prop} (hA:∀u v w,A u v w->N u/\N v) (h:Way A p u v d):N u/\N v:=by
 induction h with
 |one h=>exact hA _ _ _ h
 |cons h1 _ _ ih=>exact ⟨(hA _ _ _ h1).1,ih.2⟩
theorem Way.within {N:Int->Prop} (hA:∀u v w,A u v w->N u/\N v) (h:Way A p u v d):Way A (fun m=>p m/\N m) u v d:=by
 induction h with
 |one h=>exact .one h
 |cons h1 h2 _ ih=>exact .cons h1 ⟨h2,(hA _ _ _ h1).2⟩ ih
theorem Hier.turn {S:Int->Int->Int->Prop} {r:Int->Int} {N:Int->Prop} (h:Hier A S r N):Hier (Pv A) (Pv S) r N:=by
 refine ⟨?_,?_,fun u v w k=>h.pos _ _ _ k,fun u v w k=>(h.node _ _ _ k).symm,h.inj⟩
 ·intro u v w k
  obtain ⟨a,b⟩:=h.sound _ _ _ k;exact ⟨fun e=>a e.symm,b.turn.imp fun m hm=>⟨hm.2,hm.1⟩⟩
 ·intro u v w hne hd hw
  exact h.full _ _ _ (fun e=>hne e.symm) hd.turn (hw.turn.imp fun m hm=>⟨hm.2,hm.1⟩)
def Peak (A:Int->Int->Int->Prop) (r:Int->Int) (s v d:Int):Prop:=r s<=r v/\Dist A s v d/\Way0 A (fun m=>r m<=r v) s v d
theorem Peak.self (hA:∀u v w,A u v w->1<=w) (r:Int->Int) (s:Int):Peak A r s s 0:=⟨Int.le_refl _,.self hA s,.inl ⟨rfl,rfl⟩⟩
theorem Peak.step {S:Int->Int->Int->Prop} {r:Int->Int} {N:Int->Prop} (h:Hier A S r N) (hp:Peak A r s v d) (hne:s≠v):
  ∃x a b,d=a+b/\Peak A r s x a/\S x v b/\r x<r v/\N x/\1<=b:=by
 obtain ⟨hr,hd,hw⟩:=hp
 rcases hw with ⟨e,_⟩|hw
 ·exact absurd e hne
 obtain ⟨x,a,b,rfl,hb,hx⟩:=(hw.within h.node).top r;have hb1:1<=b:=hb.pos h.pos;have hbA:Way0 A Any x v b:=.inr (hb.imp fun _ _=>trivial);have hxA:Way0 A Any s x a:=by
  rcases hx with ⟨rfl,rfl⟩|⟨_,_,hx⟩
  ·exact .inl ⟨rfl,rfl⟩
  ·exact .inr (hx.imp fun _ _=>trivial)
 obtain ⟨d1,d2⟩:=hd.parts hxA hbA;have hNx:N x:=(hb.nodes h.node).1;have hNv:N v:=(hb.nodes h.node).2;have hxv:x≠v:=by
  rintro rfl;have:=hd.2 _ hxA;omega
 have hrx:r x<r v:=by
  have hle:r x<=r v:=by
   rcases hx with ⟨rfl,_⟩|⟨⟨hx,_⟩,_⟩
   ·exact hr
   ·exact hx
  have:r x≠r v:=fun e=>hxv (h.inj _ _ hNx hNv e);omega
 have hS:S x v b:=h.full _ _ _ hxv d2 (hb.imp fun m hm=>⟨hm.2,by omega⟩);refine ⟨x,a,b,rfl,⟨?_,d1,?_⟩,hS,hrx,hNx,hb1⟩
 ·rcases hx with ⟨rfl,_⟩|⟨_,hx,_⟩
  ·exact Int.le_refl _
  ·exact hx
 ·rcases hx with ⟨rfl,rfl⟩|⟨_,_,hx⟩
  ·exact .inl ⟨rfl,rfl⟩
  ·exact .inr (hx.imp fun m hm=>hm.2)
theorem Um {S:Int->Int->Int->Prop} {r:Int->Int} {N:Int->Prop} (h:Hier A S r N) (hd:Dist A s t d):
  ∃x a b,d=a+b/\Peak A r s x a/\Peak (Pv A) r t x b:=by
 rcases hd.1 with ⟨rfl,rfl⟩|hw
 ·exact ⟨s,0,0,rfl,.self h.pos r s,.self h.turn.pos r s⟩
 obtain ⟨x,a,b,rfl,hb,hx⟩:=(hw.within h.node).top r
 by_cases ht:r x<r t
 ·refine ⟨t,a+b,0,by omega,⟨?_,hd,?_⟩,.self h.turn.pos r t⟩
  ·rcases hx with ⟨rfl,_⟩|⟨_,hx,_⟩<;>omega
  ·have hb2:Way A (fun m=>r m<=r t) x t b:=hb.imp fun m hm=>by have:=hm.2;omega
   rcases hx with ⟨rfl,rfl⟩|⟨_,_,hx⟩
   ·rw [Int.zero_add];exact .inr hb2
   ·exact .inr ((hx.imp fun m hm=>by have:=hm.2;omega).trans (by omega) hb2)
 ·have hbA:Way0 A Any x t b:=.inr (hb.imp fun _ _=>trivial)
  have hxA:Way0 A Any s x a:=by
   rcases hx with ⟨rfl,rfl⟩|⟨_,_,hx⟩
   ·exact .inl ⟨rfl,rfl⟩
   ·exact .inr (hx.imp fun _ _=>trivial)
  obtain ⟨d1,d2⟩:=hd.parts hxA hbA;refine ⟨x,a,b,rfl,⟨?_,d1,?_⟩,⟨by omega,d2.turn,?_⟩⟩
  ·rcases hx with ⟨rfl,_⟩|⟨_,hx,_⟩
   ·exact Int.le_refl _
   ·exact hx
  ·rcases hx with ⟨rfl,rfl⟩|⟨_,_,hx⟩
   ·exact .inl ⟨rfl,rfl⟩
   ·exact .inr (hx.imp fun m hm=>hm.2)
  ·exact .inr ((hb.imp fun m hm=>by have:=hm.2;omega).turn)
def rk (out:List Int) (v:Int):Int:=(out.idxOf v:Nat)
theorem At2 (out:List Int) (v:Int):rk out v<=out.length:=by
 unfold rk;have:=List.idxOf_le_length (a:=v) (l:=out);omega
theorem Hc {out:List Int} {v:Int}:rk out v<out.length↔v∈out:=by
 unfold rk;rw [Int.ofNat_lt,List.idxOf_lt_length_iff]
theorem Ji {out:List Int} {v:Int} (h:v∉out):rk out v=out.length:=by
 have h1:=At2 out v;have h2:¬rk out v<out.length:=fun k=>h (Hc.1 k);omega
theorem Ue {out:List Int} {v z:Int} (h:v∈out):rk (out++[z]) v=rk out v:=by
 unfold rk;rw [List.idxOf_append,if_pos h]
theorem Jj {out:List Int} {z:Int} (h:z∉out):rk (out++[z]) z=out.length:=by
 unfold rk;rw [List.idxOf_append,if_neg h];simp
theorem Ge {out:List Int} {v z:Int} (h:v∉out) (hz:v≠z):rk (out++[z]) v=out.length+1:=by
 rw [Ji (by simp [h,hz])];simp
theorem Bf6 {out:List Int} {u v:Int} (hu:u∈out) (h:rk out u=rk out v):u=v:=by
 have h1:=Hc.2 hu;have h2:v∈out:=Hc.1 (by omega);unfold rk at h;have h3:out.idxOf u=out.idxOf v:=by omega
 have e1:=List.getElem_idxOf (List.idxOf_lt_length_iff.2 hu);have e2:=List.getElem_idxOf (List.idxOf_lt_length_iff.2 h2);simp only [h3] at e1;exact e1.symm.trans e2
theorem Way.last (z:Int) (h:Way A p u v d):Way A (fun m=>p m/\m≠z) u v d\/∃a b,d=a+b/\p z/\Way A p u z a/\Way A (fun m=>p m/\m≠z) z v b:=by
 induction h with
 |one h=>exact .inl (.one h)
 |@cons u m v w d h1 h2 h3 ih=>
  rcases ih with h|⟨a,b,rfl,hz,ha,hb⟩
  ·by_cases e:m=z
   ·subst e
    exact .inr ⟨w,d,rfl,h2,.one h1,h⟩
   ·exact .inl (.cons h1 ⟨h2,e⟩ h)
  ·exact .inr ⟨w+a,b,by omega,hz,.cons h1 h2 ha,hb⟩
theorem Way.once (hA:∀u v w,A u v w->1<=w) (z:Int) (h:Way A p u v d) (hd:Dist A u v d):Way A (fun m=>p m/\m≠z) u v d\/∃a b,d=a+b/\p z/\Way A (fun m=>p m/\m≠z) u z a/\Way A (fun m=>p m/\m≠z) z v b:=by
 rcases h.last z with h|⟨a,b,rfl,hz,ha,hb⟩
 ·exact .inl h
 ·rcases ha.last z with ha|⟨a1,a2,rfl,_,ha1,ha2⟩
  ·exact .inr ⟨a,b,rfl,hz,ha,hb⟩
  ·have h2:=ha2.pos hA
   have:=hd.2 (a1+b) (.inr ((ha1.imp fun _ _=>trivial).trans trivial (hb.imp fun _ _=>trivial)));omega
structure Part (A S:Int->Int->Int->Prop) (out:List Int):Prop where
 sound:∀u v w,S u v w->u≠v/\Way A (fun m=>rk out m<rk out u/\rk out m<rk out v) u v w
 full:∀u v w,u≠v->Dist A u v w->Way A (fun m=>rk out m<rk out u/\rk out m<rk out v) u v w->S u v w
theorem Part.start {S:Int->Int->Int->Prop} (h1:∀u v w,S u v w->u≠v/\A u v w) (h2:∀u v w,u≠v->A u v w->Dist A u v w->S u v w):Part A S []:=by
 refine ⟨fun u v w h=>⟨(h1 _ _ _ h).1,.one (h1 _ _ _ h).2⟩,?_⟩;intro u v w hne hd hw;have hr:∀x,rk [] x=0:=fun x=>by simp [rk]
 cases hw with
 |one h=>exact h2 _ _ _ hne h hd
 |cons _ h _=>simp [hr] at h
theorem Part.go {S S':Int->Int->Int->Prop} {out:List Int} {z:Int} (hA:∀u v w,A u v w->1<=w) (h:Part A S out) (hz:z∉out)
  (hS:∀u v w,S u v w->S' u v w)
  (hnew:∀u v w,S' u v w->S u v w\/(u∉out/\v∉out/\u≠z/\v≠z/\u≠v/\∃a b,S u z a/\S z v b/\w=a+b))
  (hall:∀u v a b,u∉out->v∉out->u≠z->v≠z->u≠v->S u z a->S z v b->Dist A u v (a+b)->S' u v (a+b)):Part A S' (out++[z]):=by
 have hmono:∀m u,rk out m<rk out u->rk (out++[z]) m<rk (out++[z]) u:=by
  intro m u hm;have hm2:m∈out:=Hc.1 (by have:=At2 out u;omega);rw [Ue hm2]
  by_cases hu:u∈out
  ·rw [Ue hu];exact hm
  ·have:=Hc.2 hm2
   by_cases e:u=z
   ·subst e
    rw [Jj hz];exact this
   ·rw [Ge hu e]
    omega
 refine ⟨?_,?_⟩
 ·intro u v w k
  rcases hnew _ _ _ k with k|⟨h1,h2,h3,h4,h5,a,b,ka,kb,rfl⟩
  ·obtain ⟨a,b⟩:=h.sound _ _ _ k
   exact ⟨a,b.imp fun m hm=>⟨hmono _ _ hm.1,hmono _ _ hm.2⟩⟩
  ·refine ⟨h5,?_⟩
   rw [Ge h1 h3,Ge h2 h4];have hin:∀m,rk out m<rk out z->rk (out++[z]) m<out.length+1/\rk (out++[z]) m<out.length+1:=fun m hm=>by
    have:=hmono _ _ hm;rw [Jj hz] at this;omega
   exact ((h.sound _ _ _ ka).2.imp fun m hm=>hin m hm.2).trans (by rw [Jj hz];omega) ((h.sound _ _ _ kb).2.imp fun m hm=>hin m hm.1)
 ·intro u v w hne hd hw
  have old:(u∈out++[z]\/v∈out++[z])->S u v w:=by
   intro ho;refine h.full _ _ _ hne hd (hw.imp fun m hm=>?_);have hm2:m∈out:=by
    rcases ho with ho|ho
    ·have h1:rk (out++[z]) u<=out.length:=by have:=Hc.2 ho;simp at this;omega
     by_cases hmo:m∈out
     ·exact hmo
     ·by_cases e:m=z
      ·subst e;have:=Jj hz;omega
      ·have:=Ge hmo e;omega
    ·have h1:rk (out++[z]) v<=out.length:=by have:=Hc.2 ho;simp at this;omega
     by_cases hmo:m∈out
     ·exact hmo
     ·by_cases e:m=z
      ·subst e;have:=Jj hz;omega
      ·have:=Ge hmo e;omega
   have hlt:=Hc.2 hm2;have each:∀x,rk (out++[z]) m<rk (out++[z]) x->rk out m<rk out x:=by
    intro x hx
    by_cases hxo:x∈out
    ·rw [Ue hm2,Ue hxo] at hx
     exact hx
    ·rw [Ji hxo]
     exact hlt
   exact ⟨each _ hm.1,each _ hm.2⟩
  by_cases hu:u∈out++[z]
  ·exact hS _ _ _ (old (.inl hu))
  by_cases hv:v∈out++[z]
  ·exact hS _ _ _ (old (.inr hv))
  have hu1:u∉out:=fun k=>hu (by simp [k]);have hu2:u≠z:=fun k=>hu (by simp [k]);have hv1:v∉out:=fun k=>hv (by simp [k]);have hv2:v≠z:=fun k=>hv (by simp [k]);rw [Ge hu1 hu2,Ge hv1 hv2] at hw;have hin:∀m,rk (out++[z]) m<out.length+1/\m≠z->m∈out:=by
   rintro m ⟨hm,hmz⟩
   by_cases hmo:m∈out
   ·exact hmo
   ·have:=Ge hmo hmz;omega
  rcases hw.once hA z hd with hw|⟨a,b,rfl,_,ha,hb⟩
  ·refine hS _ _ _ (h.full _ _ _ hne hd (hw.imp fun m hm=>?_))
   rw [Ji hu1,Ji hv1];have:=Hc.2 (hin m ⟨hm.1.1,hm.2⟩);exact ⟨this,this⟩
  ·obtain ⟨d1,d2⟩:=hd.parts (.inr (ha.imp fun _ _=>trivial)) (.inr (hb.imp fun _ _=>trivial))
   refine hall _ _ _ _ hu1 hv1 hu2 hv2 hne (h.full _ _ _ hu2 d1 (ha.imp fun m hm=>?_)) (h.full _ _ _ (fun e=>hv2 e.symm) d2 (hb.imp fun m hm=>?_)) hd
   ·rw [Ji hu1,Ji hz]
    have:=Hc.2 (hin m ⟨hm.1.1,hm.2⟩);exact ⟨this,this⟩
   ·rw [Ji hv1,Ji hz]
    have:=Hc.2 (hin m ⟨hm.1.1,hm.2⟩);exact ⟨this,this⟩
theorem Part.hier {S:Int->Int->Int->Prop} {out:List Int} {N:Int->Prop} (h:Part A S out) (hA:∀u v w,A u v w->1<=w) (hN:∀u v w,A u v w->N u/\N v) (hall:∀v,N v->v∈out):Hier A S (rk out) N:=
 ⟨h.sound,h.full,hA,hN,fun _ _ hu _ e=>Bf6 (hall _ hu) e⟩
end Ch
end
end Go.Proofs.YteaaapdjplbljaaGreat
