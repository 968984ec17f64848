/- Parts; no condition. -/
import Derived.WalkKit
import Derived.WalkLawsBesides
import Derived.WalkSpells
import Derived.Outline
import Derived.Lib.Hide
import Derived.Shelf.Abstract
import Derived.Deep.LoopGhost
import Derived.Deep.Quiet
import Derived.Deep.QuietTactic
import Derived.BigQuiet
import Derived.Deep.AppendLies
import Derived.Deep.RegionWith
import Derived.Deep.RegionHeld3
import Derived.ScopeJumps
import Derived.StillTail
set_option linter.unusedVariables false
set_option linter.unusedSimpArgs false
set_option linter.unnecessarySimpa false
set_option maxRecDepth 100000
set_option maxHeartbeats 8000000
namespace Go.Proofs.YteaaapdjplbljaaGreat
section
open RowKit Shelf
abbrev Bi5:=@Lib.hid
abbrev Bi6:=@cell_later
abbrev Bi7:=@Nat.le_refl
abbrev Bi8:=@Nat.zero_le
abbrev Bi9:=@Nat.le_trans
abbrev Bj0:=@List.getElem?_eq_getElem
abbrev Bj1:=@List.getD_eq_getElem?_getD
abbrev Bj2:=@Array.getElem?_eq_some_iff
abbrev Bj3:=@World.cell?_setCell_other
abbrev Bj4:=@World.cell?_setCell_same
abbrev Bj5:=@World.block_lt_of_cell?
abbrev Bj6:=@List.length_set
abbrev Bj7:=@List.getElem_mem
abbrev Bj8:=@List.getElem?_eq_some_iff
abbrev Bj9:=@Int.toNat_natCast
abbrev Bk0:=@List.length_cons
abbrev Bk1:=@List.length_nil
abbrev Bk2:=@List.mem_singleton
abbrev Bk3:=@List.take_succ_eq_append_getElem
abbrev Bk4:=@List.getElem?_map
abbrev Bk5:=@List.setIfInBounds_toArray
abbrev Bk6:=@List.getElem?_cons_succ
abbrev Bk7:=@List.getElem?_cons_zero
abbrev Bk8:=@List.set_cons_zero
abbrev Bk9:=@List.set_cons_succ
abbrev Bl0:=@Option.getD_some
abbrev Bl1:=@Option.bind_some
abbrev Bl2:=@World.cell?_of_block
abbrev Bl3:=@List.mem_of_getElem?
abbrev Bl4:=@Option.some.inj
abbrev Bl5:=@List.length_append
abbrev Bl6:=@List.length_replicate
abbrev Bl7:=@List.mem_cons
abbrev Bl8:=@List.mem_append
abbrev Bl9:=@List.mem_range
abbrev Bm0:=@Array.getD_eq_getD_getElem?
abbrev Bm1:=@World.frozen?_setCell
abbrev Bm2:=@List.getElem?_eq_none
abbrev Bm3:=@List.getElem?_append_right
abbrev Bm4:=@List.getElem?_append_left
abbrev Bm5:=@List.getElem?_replicate
abbrev Bm6:=@List.map_append
abbrev Bm7:=@List.length_map
abbrev Bm8:=@List.append_assoc
abbrev Bm9:=@List.mem_iff_getElem
abbrev Bn0:=@World.cell?_setCell_far
abbrev Bn1:=@List.take_length
abbrev Bn2:=@Int.toNat_of_nonneg
abbrev Bn3:=@List.getElem?_set_ne
abbrev Bn4:=@List.getElem?_set_self
abbrev Bn5:=@List.pairwise_append
abbrev Bn6:=@List.getElem?_take_of_lt
abbrev Bn7:=@IntKind.wrap_u64
end
section
open Go.Proofs Go.RowKit Go.Shelf
def Cel (w:World) (ao:Option Addr) (cs:List Value):Prop:=
 ∀i u,cs[i]? =some u->∃b o,ao=some ⟨b,o,none⟩/\w.cell? ⟨b,o+i,none⟩=some u
theorem _root_.Go.RowKit.Below.st {w a b:World} (h:Below w.heap.size w a) (k:Below a.heap.size a b):Below w.heap.size w b:=h.trans (k.mono h.size)
theorem _root_.Go.RowKit.Below.al {w a:World} (h:Below w.heap.size w a) (o:Obj):Below w.heap.size w (a.alloc o):=h.alloc h.size o
theorem _root_.Go.RowKit.Below.dr {w a:World} (h:Below w.heap.size w a) (n:Nat):Below w.heap.size w (a.drewN n):=below_drewN h n
theorem _root_.Go.RowKit.Below.of_dr (w:World) (n:Nat):Below w.heap.size w (w.drewN n):=below_drewN (Below.refl _ _) n
theorem _root_.Go.RowKit.Below.of_al (w:World) (o:Obj):Below w.heap.size w (w.alloc o):=(Below.refl _ _).al o
theorem Cel.nil (w:World) (ao:Option Addr):Cel w ao []:=fun i u h=>by simp at h
theorem Cel.below {w w':World} {ao:Option Addr} {cs:List Value} {B:Nat} (h:Cel w ao cs) (hb:Below B w w') (hB:w.heap.size<=B):Cel w' ao cs:=by
 intro i u hu;obtain ⟨b,o,e,hc⟩:=h i u hu;exact ⟨b,o,e,Bi6 (hb.mono hB) hc⟩
theorem Cel.at {α:Type} {w:World} {ao:Option Addr} {l:List α} {enc:α->Value} (h:Cel w ao (l.map enc)) {i:Nat} (hi:i<l.length):
  ∃b o,ao=some ⟨b,o,none⟩/\w.cell? ⟨b,o+i,none⟩=some (enc l[i]):=
 h i _ (by simp [hi])
theorem Cel.go {w w':World} {ao:Option Addr} {cs:List Value} (h:Cel w ao cs) (hb:Below w.heap.size w w'):Cel w' ao cs:=h.below hb (Bi7 _)
theorem Cel.of_owns {w:World} {base:Nat} {e:TypeId} {size n:Nat} {v:Value} {xs:List Value} (h:w.ownsRow base e size v n xs):
  ∃ao cap,v=.slice ao n cap/\Cel w ao xs:=by
 have h2:=h.2
 rcases h2 with ⟨rfl,rfl⟩|⟨g,cap,cur,rfl,hb,hg,rest⟩
 ·refine ⟨none,0,rfl,?_⟩
  have:xs=[]:=List.eq_nil_of_length_eq_zero (by simpa using h.1);subst this;exact Cel.nil _ _
 ·refine ⟨_,cap,rfl,fun i u hu=>⟨g,0,rfl,?_⟩⟩
  have:=h.cells (g:=g) rfl i u hu;rw [Addr.add_lit] at this;exact this
theorem ne_i {x y:Int} (h:(x != y)=true):x≠y:=by simpa using h
theorem eq_i {x y:Int} (h:(x != y)=false):x=y:=by simpa using h
def Lm {α:Type} (P:Program) (g:Nat) (cb:Array Value) (enc:α->Value) (p:α->Bool) (l:List α) (w:World):Prop:=
 ∀(W:World) (x:α),Below w.heap.size w W->x∈l->Calls P g (#[enc x]++cb) W fun e w'=>e=.returned (.bool (p x))/\Below W.heap.size W w'
def Fk {α:Type} (p:α->Bool):List α->Int
 |[]=>-1
 |x::r=>if p x then 0 else if Fk p r<0 then -1 else Fk p r+1
theorem Ag7 {α:Type} (p:α->Bool):∀l:List α,-1<=Fk p l
 |[]=>by simp [Fk]
 |x::r=>by
  have:=Ag7 p r;unfold Fk
  split
  ·omega
  ·split<;>omega
theorem Re {α:Type} (p:α->Bool):∀l:List α,decide (0<=Fk p l)=l.any p
 |[]=>by simp [Fk]
 |x::r=>by
  have h:=Re p r;unfold Fk
  by_cases hp:p x=true
  ·simp [hp]
  ·rw [Bool.eq_false_iff.2 hp,List.any_cons,<-h]
   have:=Ag7 p r;rw [Bool.eq_false_iff.2 hp,Bool.false_or];simp only [Bool.false_eq_true,if_false]
   split<;>(congr 1;apply propext;omega)
theorem Ha {α:Type} (p:α->Bool):∀l:List α,(∀j (h:j<l.length),p l[j]=false)->Fk p l= -1
 |[],_=>rfl
 |x::r,h=>by
  unfold Fk;rw [show p x=false from h 0 (by simp),Ha p r (fun j hj=>h (j+1) (by simpa using hj))];simp
theorem Jf {α:Type} (p:α->Bool):∀(l:List α) (k:Nat) (hk:k<l.length),p l[k]=true->(∀j (h:j<l.length),j<k->p l[j]=false)->Fk p l=(k:Int)
 |x::r,0,_,h,_=>by unfold Fk;rw [show p x=true from h];rfl
 |x::r,k+1,hk,h,hb=>by
  unfold Fk;rw [show p x=false from hb 0 (by simp) (by omega),Jf p r k (by simpa using hk) h (fun j hj h2=>hb (j+1) (by simpa using hj) (by omega))];simp;omega
abbrev Aj (n:Int):Value:=.int .i64 n
abbrev Bz (n:Int):Value:=.int .u64 n
structure EP where
 d:Nat
 os:Array Obj
 deriving Inhabited
def ext (w:World) (p:EP):World:={ w with heap:=w.heap++p.os,drawn:=p.d }
theorem Ah (w:World) (p:EP):Below w.heap.size w (ext w p):=
 ⟨rfl,rfl,rfl,by simp [ext],fun k hk=>by simp [ext,Array.getElem?_append,hk]⟩
theorem Fl {w w':World} (h:Below w.heap.size w w'):∃p,w'=ext w p:=by
 refine ⟨⟨w'.drawn,w'.heap.extract w.heap.size w'.heap.size⟩,?_⟩;have hh:w'.heap=w.heap++w'.heap.extract w.heap.size w'.heap.size:=by
  apply Array.ext_getElem?
  intro i;rw [Array.getElem?_append]
  split
  ·rename_i hi;exact h.block i hi
  ·rename_i hi
   rw [Array.getElem?_extract];have hs:=h.size
   split
   ·congr 1;omega
   ·rename_i h2
    rw [Array.getElem?_eq_none (by omega)]
 cases w' with
 |mk hp tp dr os out=>
  obtain ⟨h1,h2,h3,h4,h5⟩:=h;simp only at h1 h2 h3 hh;subst h1 h2 h3;unfold ext;simp only;rw [<-hh]
theorem Ac {w:World} {a:Addr} {v:Value} (p:EP) (h:w.cell? a=some v):(ext w p).cell? a=some v:=Bi6 (Ah w p) h
theorem Calls.ext_of {P:Program} {f:FuncId} {args:Array Value} {w:World} {p:EP} {v:Value}
  (h:Calls P f args (ext w p) fun e w'=>e=.returned v/\Below (ext w p).heap.size (ext w p) w'):Calls P f args (ext w p) fun e w''=>e=.returned v/\∃p':EP,w''=ext w p':=
 h.mono fun _ _ ⟨he,hb⟩=>⟨he,Fl ((Ah w p).st hb)⟩
theorem Calls.ext_of_same {P:Program} {f:FuncId} {args:Array Value} {w:World} {p:EP} {v:Value}
  (h:Calls P f args (ext w p) fun e w'=>e=.returned v/\ext w p=w'):Calls P f args (ext w p) fun e w''=>e=.returned v/\∃p':EP,w''=ext w p':=
 h.mono fun _ _ ⟨he,hb⟩=>⟨he,p,hb.symm⟩
theorem Ag {P:Program} {id:Nat} {Q:Exit->Act->World->Prop} {a:Act} {w:World} {l:List Oper} (hm:P.follows .mixedOrders=true) (hB:Region.lexB .any l.toArray=true)
  (h:wpQuiet P l.toArray (fun w'=>∃p:EP,w'=ext w p) (fun a'=>∀w',(∃p:EP,w'=ext w p)->Q .normal a' w') l a):(Code.region id l.toArray true).wp P Q a w:=
 wp_region_quiet (C:=fun w'=>∃p:EP,w'=ext w p) hm hB (Fl (below_drewN (Below.refl _ w) 1)) (by simpa using h)
def lit (n:Nat) (u:Nat->Value):Act:=⟨((List.range n).map u).toArray,[]⟩
theorem Aa6 (n:Nat) (a:Act) (h:a.tmps.size=n) (hd:a.defers=[]):a=lit n (fun i=>a.tmps.getD i undef):=by
 cases a with
 |mk t d=>
  simp only at h hd;subst hd;unfold lit
  congr 1
  apply Array.ext
  ·simp [h]
  ·intro i h1 h2
   simp [h1]
def Exit.jumps (J:Nat->Act->World->Prop) (Q:Exit->Act->World->Prop):Exit->Act->World->Prop
 | .goto l,a,w=>J l a w
 |e,a,w=>Q e a w
section
variable {P:Program} {a:Act} {w:World} {Q:Exit->Act->World->Prop} {J:Nat->Act->World->Prop}
@[go_sem] theorem Bb3:Exit.jumps J Q .normal a w=Q .normal a w:=rfl
@[go_sem] theorem Bf5 (id:Nat):Exit.jumps J Q (.exit id) a w=Q (.exit id) a w:=rfl
@[go_sem] theorem Ty:Exit.jumps J Q .ret a w=Q .ret a w:=rfl
@[go_sem] theorem Bd0 (ch:List PanicEntry):Exit.jumps J Q (.panic ch) a w=Q (.panic ch) a w:=rfl
@[go_sem] theorem Lj (l:Nat):Exit.jumps J Q (.goto l) a w=J l a w:=rfl
theorem Pe {c:Code} (n₀:Nat) (J:Nat->Nat->Act->World->Prop)
  (first:c.wp P (Exit.jumps (J n₀) Q) a w)
  (pass:∀n l a w,J n l a w->∃rest,findLabel c l=some rest/\rest.wp P (Exit.jumps (fun l' a' w'=>∃n',n'<n/\J n' l' a' w') Q) a w):(Code.scope c).wp P Q a w:=by
 intro b k cs;have hg:∀l rest,findLabel c l=some rest->gotoIn l (.inScope c::k)=some (.code rest::.inScope c::k):=fun l rest hf=>by simp [gotoIn,hf]
 have key:∀n l a w,J n l a w->∃rest,findLabel c l=some rest/\∃e a' w',Q e a' w'/\Arrives P (lone (b.at a (.code rest::.inScope c::k)) cs w) b k cs e a' w':=by
  intro n
  induction n using Nat.strongRecOn with
  |_ n ih=>
   intro l a w hJ;obtain ⟨rest,hf,hwp⟩:=pass n l a w hJ;refine ⟨rest,hf,?_⟩;obtain ⟨e,a₁,w₁,hq,harr⟩:=hwp b (.inScope c::k) cs
   cases e with
   |normal=>exact ⟨.normal,a₁,w₁,hq,Steps.trans harr (.one step_inScope)⟩
   |exit id=>exact ⟨.exit id,a₁,w₁,hq,fun k' hk=>harr k' (by simp [exitTo,hk])⟩
   |goto l'=>
    obtain ⟨n',hlt,hJ'⟩:=hq;obtain ⟨rest',hf',e₂,a₂,w₂,hq₂,harr₂⟩:=ih n' hlt l' a₁ w₁ hJ';exact ⟨e₂,a₂,w₂,hq₂,.of_steps (harr _ (hg _ _ hf')) harr₂⟩
   |ret=>exact ⟨_,a₁,w₁,hq,harr⟩
   |panic ch=>exact ⟨_,a₁,w₁,hq,harr⟩
   |outgrown=>exact ⟨_,a₁,w₁,hq,harr⟩
 obtain ⟨e,a₁,w₁,hq,harr⟩:=first b (.inScope c::k) cs
 cases e with
 |normal=>exact ⟨.normal,a₁,w₁,hq,.head step_scope (Steps.trans harr (.one step_inScope))⟩
 |exit id=>exact ⟨.exit id,a₁,w₁,hq,fun k' hk=>.head step_scope (harr k' (by simp [exitTo,hk]))⟩
 |goto l'=>
  obtain ⟨rest',hf',e₂,a₂,w₂,hq₂,harr₂⟩:=key n₀ l' a₁ w₁ hq;exact ⟨e₂,a₂,w₂,hq₂,.of_steps (.head step_scope (harr _ (hg _ _ hf'))) harr₂⟩
 |ret=>exact ⟨_,a₁,w₁,hq,.of_steps (.one step_scope) harr⟩
 |panic ch=>exact ⟨_,a₁,w₁,hq,.of_steps (.one step_scope) harr⟩
 |outgrown=>exact ⟨_,a₁,w₁,hq,.of_steps (.one step_scope) harr⟩
theorem Ko {c r:Code} (l₀ n₀:Nat) (J:Nat->Nat->Act->World->Prop) (hf:findLabel c l₀=some (.seq .skip r)) (hJ:∀n n' l a w,n<=n'->J n l a w->J n' l a w)
  (first:(∀a w,J n₀ l₀ a w->r.wp P (Exit.jumps (J n₀) Q) a w)->c.wp P (Exit.jumps (J n₀) Q) a w)
  (pass₀:∀n a w,J n l₀ a w->r.wp P (Exit.jumps (fun l' a' w'=>∃n',n'<n/\J n' l' a' w') Q) a w)
  (pass:∀n l a w,l≠l₀->J n l a w->∃rest,findLabel c l=some rest/\rest.wp P (Exit.jumps (fun l' a' w'=>∃n',n'<n/\J n' l' a' w') Q) a w):(Code.scope c).wp P Q a w:=by
 refine Pe n₀ J (first ?_) ?_
 ·intro a w hj
  refine Code.wp_mono ?_ (pass₀ (n₀+1) a w (hJ _ _ _ _ _ (Nat.le_succ _) hj));intro e a w hq
  cases e with
  |goto l=>obtain ⟨n',hlt,hj'⟩:=hq;exact hJ _ _ _ _ _ (by omega) hj'
  |_=>exact hq
 ·intro n l a w hj
  by_cases hl:l=l₀
  ·subst hl
   refine ⟨_,hf,wp_seq_k ?_⟩;intro K hK;exact wp_skip (hK _ _ (pass₀ n a w hj))
  ·exact pass n l a w hl hj
end
def Gq (P:Program) (E:TypeId) (z:Value) (size bytes:Nat):Prop:=
 (P.info? E).map (fun i=>(i.zero,i.size,i.bytes))=some (some z,size,bytes)/\z.cells.size=size/\0<size
theorem Ly {w:World} {base:Nat} {e:TypeId} {size:Nat} {v:Value} {n:Nat} {xs:List Value} (h:w.ownsRow base e size v n xs) (q:Nat):(w.drewN q).ownsRow base e size v n xs:=h
theorem Cr {u:Value} (h:u.oneCell'=true):∀x∈[u],x.oneCell'=true:=fun x hx=>by
 rw [Bk2.1 hx];exact h
theorem Ce {P:Program} {w:World} {ops:Array Oper} {rest:List Oper} {a:Act} {Q:Exit->Act->World->Prop} {d:Option Tmp} {t ty:TypeId} {s x:Operand} {pos:String} {aft:Array Edge}
  (base:Nat) (E:TypeId) (z:Value) (size bytes:Nat) (hE:Gq P E z size bytes) (ht:P.underlying t=some (.slice E))
  (v:Value) (n:Nat) (xs:List Value) (ad:Addr) (m c:Nat) (news:List Value) (hs:a.eval s=v) (hx:a.eval x=.slice (some ad) m c)
  (hown:w.ownsRow base E size v n xs) (hnews:∀j u,news[j]? =some u->w.cell? (ad.add j)=some u) (h1:∀u∈news,u.oneCell'=true)
  (hl:news.length=m*size/\0<m/\n+m<=9223372036854775807/\(n+m)*bytes<=140737488355328/\base<=w.heap.size)
  (hK:∀g cap w',w'.ownsRow base E size (.slice (some ⟨g,0,none⟩) (n+m) cap) (n+m) (xs++news)->w.grownBy w' v.ownBlock->Below base w w'->
   (v.ownBlock=some g\/g=w.heap.size)->g<w'.heap.size->wpList P ops Q rest (a.put d (.slice (some ⟨g,0,none⟩) (n+m) cap)) w'):
  wpList P ops Q (⟨d,.call { callee:=.builtin .append,args:=#[s,x],argTypes:=#[t,t] },ty,pos,aft,none⟩::rest) a w:=by
 obtain ⟨hE,hz1,hz2⟩:=hE;obtain ⟨i,hi,hz,hsz,hby⟩:=info_parts hE;obtain ⟨l1,l2,l3,l4,l5⟩:=hl;refine wpList_append_lies w rfl s x t rfl base E i z size bytes ht hi hz hsz hby hz1 hz2 v n xs hs hown ad m c news hx l1 hnews h1 l2 (by unfold maxLen;omega) l4 l5 _ rfl ?_;intro g cap w' ho hg hat hlt;exact hK g cap w' ho hg ((Below.refl _ w).grown hg l5 (fun k hk=>(hown.lt k hk).1)) hat hlt
theorem Ef {P:Program} {w:World} {ops:Array Oper} {rest:List Oper} {a:Act} {Q:Exit->Act->World->Prop} {d:Option Tmp} {t ty:TypeId} {l c:Operand} {pos:String} {aft:Array Edge}
  (base:Nat) (E:TypeId) (z:Value) (size bytes:Nat) (hE:Gq P E z size bytes) (ht:P.underlying t=some (.slice E))
  (n:Nat) (kl kc:IntKind) (L C:Int) (hl:a.eval l=.int kl L) (hc:a.eval c=.int kc C)
  (h:L=(n:Int)/\C=(n:Int)/\bytes*n<=281474976710656/\n<=9223372036854775807/\base<=w.heap.size)
  (hK:∀w',w'.ownsRow base E size (.slice (some ⟨w.heap.size,0,none⟩) n n) n (madeCells z.cells (n*size)).toList->Below w.heap.size w w'->w.heap.size<w'.heap.size->
   wpList P ops Q rest (a.put d (.slice (some ⟨w.heap.size,0,none⟩) n n)) w'):
  wpList P ops Q (⟨d,.makeSlice t l c,ty,pos,aft,none⟩::rest) a w:=by
 obtain ⟨hE,hz1,hz2⟩:=hE;obtain ⟨i,hi,hz,hsz,hby⟩:=info_parts hE;obtain ⟨h1,h2,h3,h4,h5⟩:=h;refine wpList_make_full w rfl l c t rfl base E i z size ht hi hz hsz kl kc L C n hl hc h1 h2 (by rw [hby];exact h3) (by unfold maxLen;omega) h5 ?_;intro w' ho hg;refine hK w' ho ((Below.refl _ w).grown hg (Bi7 _) (fun k hk=>by cases hk)) ?_
 rcases ho.2 with ⟨e,_⟩|⟨g,cap,cur,e,_,hgg,_⟩
 ·cases e
 ·cases e
  exact (Bj2.1 hgg).1
end
section
open Go Go.Proofs Go.RowKit
section
variable {P:Program} {ops:Array Oper} {md:Region.Mode} {Q:Exit->Act->World->Prop}
def Eh (listed:Array Bool):Nat->Nat
 |0=>0
 |n+1=>Eh listed n+(if listed.getD n true=false then 1 else 0)
theorem Py {listed:Array Bool} {i:Nat}:∀{n:Nat},Eh (listed.setIfInBounds i true) n<=Eh listed n
 |0=>Bi7 _
 |n+1=>by
  have ih:=Py (listed:=listed) (i:=i) (n:=n);unfold Eh
  by_cases e:i=n
  ·subst e
   have:¬(listed.setIfInBounds i true).getD i true=false:=by
    rcases Nat.lt_or_ge i listed.size with h|h<;>simp [h]
   rw [if_neg this];omega
  ·rw [getD_set_ne true e]
   omega
theorem My {listed:Array Bool} {i:Nat}:∀{n:Nat},i<n->listed.getD i true=false->Eh (listed.setIfInBounds i true) n<Eh listed n
 |n+1,hi,hf=>by
  unfold Eh
  by_cases e:i=n
  ·subst e
   have h1:=Py (listed:=listed) (i:=i) (n:=i);have:¬(listed.setIfInBounds i true).getD i true=false:=by
    rcases Nat.lt_or_ge i listed.size with h|h<;>simp [h]
   rw [if_neg this,if_pos hf];omega
  ·have ih:=My (n:=n) (by omega) hf
   rw [getD_set_ne true e];omega
theorem Mz (listed:Array Bool):∀n,Eh listed n<=n
 |0=>Bi7 _
 |n+1=>by
  have:=Mz listed n;unfold Eh
  split<;>omega
theorem Ir {listed:Array Bool}:∀{n i:Nat},Eh listed n=0->i<n->listed.getD i true≠false
 |n+1,i,h,hi=>by
  unfold Eh at h
  by_cases e:i=n
  ·subst e
   intro hf;rw [if_pos hf] at h;omega
  ·exact Ir (n:=n) (by omega) (by omega)
theorem Tc (J:Array Bool->Act->World->Prop) (hJ:∀listed a w i,J listed a w->i∈Region.ready md ops listed->wpOp P ops Q i (fun a' w'=>J (listed.setIfInBounds i true) a' w') a w)
  (hend:∀listed a w,J listed a w->Region.ready md ops listed=[]->Q .normal a w):
  ∀(fuel:Nat) (listed:Array Bool) (a:Act) (w:World),Eh listed ops.size<=fuel->J listed a w->wpAny P md ops Q fuel listed a w
 |0,listed,a,w,hf,h=>by
  have hr:Region.ready md ops listed=[]:=by
   rw [List.eq_nil_iff_forall_not_mem];intro i hi;obtain ⟨h1,o,h2,_⟩:=mem_ready.1 hi;have hlt:i<ops.size:=(Bj2.1 h2).1;exact Ir (by omega) hlt h1
  exact ⟨hr,hend _ _ _ h hr⟩
 |fuel+1,listed,a,w,hf,h=>by
  refine ⟨hend _ _ _ h,fun i hi=>?_⟩;obtain ⟨h1,o,h2,_⟩:=mem_ready.1 hi;have hlt:i<ops.size:=(Bj2.1 h2).1;have hc:=My hlt h1;exact wpOp_mono (fun a' w' h'=>Tc J hJ hend fuel _ a' w' (by omega) h') (hJ _ _ _ _ h hi)
theorem Eo {id:Nat} {a:Act} {w:World} {l:List Oper} (hm:P.follows .mixedOrders=true) (J:Array Bool->Act->World->Prop) (h0:J (Array.replicate l.toArray.size false) a w.drew)
  (hJ:∀listed a w i,J listed a w->i∈Region.ready .any l.toArray listed->wpOp P l.toArray Q i (fun a' w'=>J (listed.setIfInBounds i true) a' w') a w)
  (hend:∀listed a w,J listed a w->Region.ready .any l.toArray listed=[]->Q .normal a w):(Code.region id l.toArray true).wp P Q a w:=
 wp_region_any hm (Tc J hJ hend _ _ _ _ (Mz _ _) h0)
end
end
section
open Go Go.Proofs Go.RowKit
section
def Al (a:Act) (D:Nat->Nat) (vs:Nat->Value):Nat->Act
 |0=>a
 |n+1=>(Al a D vs n).put (some (D n)) (vs n)
variable {a a':Act} {D:Nat->Nat} {vs:Nat->Value}
theorem Jt:∀n,(Al a D vs n).tmps.size=a.tmps.size
 |0=>rfl
 |n+1=>by
  show ((Al a D vs n).tmps.setIfInBounds _ _).size=_
  rw [Array.size_setIfInBounds,Jt n]
theorem Ja:∀n,(Al a D vs n).defers=a.defers
 |0=>rfl
 |n+1=>Ja n
theorem Et {t:Nat}:∀{n:Nat},(∀i,i<n->D i≠t)->(Al a D vs n).tmps[t]? =a.tmps[t]?
 |0,_=>rfl
 |n+1,h=>by
  show ((Al a D vs n).tmps.setIfInBounds _ _)[t]? =_
  rw [Array.getElem?_setIfInBounds_ne (h n (by omega)),Et (fun i hi=>h i (by omega))]
theorem Gg {i:Nat}:∀{n:Nat},(∀i j,i<n->j<n->D i=D j->i=j)->i<n->D i<a.tmps.size->(Al a D vs n).tmps[D i]? =some (vs i)
 |n+1,hinj,hi,hs=>by
  show ((Al a D vs n).tmps.setIfInBounds _ _)[D i]? =_
  by_cases e:i=n
  ·subst e
   rw [Array.getElem?_setIfInBounds_self_of_lt (by rw [Jt];exact hs)]
  ·rw [Array.getElem?_setIfInBounds_ne (fun h=>e (hinj i n hi (by omega) h.symm)),Gg (fun i j hi hj=>hinj i j (by omega) (by omega)) (by omega) hs]
theorem Hr {n:Nat} (hinj:∀i j,i<n->j<n->D i=D j->i=j) (hs:a'.tmps.size=a.tmps.size) (hd:a'.defers=a.defers) (hD:∀i,i<n->D i<a.tmps.size)
  (h:∀t,(∀i,i<n->D i≠t)->a'.tmps[t]? =a.tmps[t]?):a'=Al a D (fun i=>a'.tmps.getD (D i) undef) n:=by
 have ht:a'.tmps=(Al a D (fun i=>a'.tmps.getD (D i) undef) n).tmps:=by
  apply Array.ext_getElem?
  intro t
  by_cases e:∃i,i<n/\D i=t
  ·obtain ⟨i,hi,rfl⟩:=e
   rw [Gg hinj hi (hD i hi)];have:D i<a'.tmps.size:=by rw [hs];exact hD i hi
   rw [Bm0,Array.getElem?_eq_getElem this];rfl
  ·have hne:∀i,i<n->D i≠t:=fun i hi h'=>e ⟨i,hi,h'⟩
   rw [Et hne,h t hne]
 have hdd:=Ja (a:=a) (D:=D) (vs:=fun i=>a'.tmps.getD (D i) undef) n;rw [<-hd] at hdd
 cases a' with
 |mk tm df=>
  generalize hp:Al a D (fun i=>(Act.mk tm df).tmps.getD (D i) undef) n=p at*
  cases p with
  |mk tm' df'=>simp only at ht hdd;rw [ht,hdd]
def Hl (vs:Nat->Value) (i:Nat) (v:Value):Nat->Value:=fun j=>if j=i then v else vs j
theorem Gw {n i:Nat} {v:Value} (hinj:∀i j,i<n->j<n->D i=D j->i=j) (hD:∀i,i<n->D i<a.tmps.size) (hi:i<n):(Al a D vs n).put (some (D i)) v=Al a D (Hl vs i v) n:=by
 have h0:=Hr (a:=a) (a':=(Al a D vs n).put (some (D i)) v) hinj (by show ((Al a D vs n).tmps.setIfInBounds _ _).size=_;rw [Array.size_setIfInBounds,Jt]) (Ja n) hD (fun t ht=>by
  show ((Al a D vs n).tmps.setIfInBounds _ _)[t]? =_
  rw [Array.getElem?_setIfInBounds_ne (ht i hi),Et ht])
 rw [h0];have:∀m,m<=n->Al a D (fun j=>((Al a D vs n).put (some (D i)) v).tmps.getD (D j) undef) m=Al a D (Hl vs i v) m:=by
  intro m
  induction m with
  |zero=>intro _;rfl
  |succ m ih=>
   intro hm
   show Act.put _ _ _=Act.put _ _ _
   rw [ih (by omega)]
   congr 1
   show ((Al a D vs n).tmps.setIfInBounds (D i) v).getD (D m) undef=if m=i then v else vs m
   rw [Bm0]
   by_cases e:m=i
   ·subst e
    rw [Array.getElem?_setIfInBounds_self_of_lt (by rw [Jt];exact hD m hi),if_pos rfl];rfl
   ·rw [Array.getElem?_setIfInBounds_ne (fun h=>e (hinj i m hi (by omega) h).symm),Gg hinj (by omega) (hD m (by omega)),if_neg e]
    rfl
 exact this n (Bi7 _)
variable {P:Program} {Q:Exit->Act->World->Prop} {w:World}
theorem Pw {id:Nat} {l:List Oper} (D:Nat->Nat) (R:Nat->Value->List Nat->(Nat->Value)->World->Prop) (hm:P.follows .mixedOrders=true)
  (hD:∀i,i<l.length->D i<a.tmps.size) (hdst:∀i o,l[i]? =some o->o.dst=some (D i)/\o.guard=none) (hinj:∀i j,i<l.length->j<l.length->D i=D j->i=j)
  (hord:∀i o,l[i]? =some o->∀e∈o.after,Region.binds .any e=true->e.on<i) (hmono:∀i v g vs w w',Below w.heap.size w w'->R i v g vs w->R i v g vs w')
  (hloc:∀i o,l[i]? =some o->∀v g vs vs' w,(∀e∈o.after,Region.binds .any e=true->vs' e.on=vs e.on)->R i v g vs w->R i v g vs' w)
  (hop:∀i o,l[i]? =some o->∀(vs:Nat->Value) w',Below w.heap.size w w'->(∀e∈o.after,Region.binds .any e=true->∃g,R e.on (vs e.on) g vs w')->
   ∀K:Act->World->Prop,(∀v g w'',Below w'.heap.size w' w''->R i v g vs w''->(∀k∈g,w'.heap.size<=k/\k<w''.heap.size)->K ((Al a D vs l.length).put (some (D i)) v) w'')->o.wp P (Al a D vs l.length) w' K Q)
  (hend:∀(vs:Nat->Value) (gs:Nat->List Nat) w',Below w.heap.size w w'->(∀i,i<l.length->R i (vs i) (gs i) vs w')->(∀i k,i<l.length->k∈gs i->w.heap.size<=k/\k<w'.heap.size)->(∀i j k,i<l.length->j<l.length->i≠j->k∈gs i->k∉gs j)->Q .normal (Al a D vs l.length) w'):(Code.region id l.toArray true).wp P Q a w:=by
 have ha:=Hr (a:=a) (a':=a) hinj rfl rfl hD (fun _ _=>rfl);refine Eo hm (fun listed a' w'=>listed.size=l.length/\(∀i o,l[i]? =some o->listed.getD i false=true->∀e∈o.after,Region.binds .any e=true->listed.getD e.on false=true)/\
  ∃(vs:Nat->Value) (gs:Nat->List Nat),a'=Al a D vs l.length/\Below w.heap.size w w'/\(∀i,i<l.length->listed.getD i false=true->R i (vs i) (gs i) vs w')/\(∀i,i<l.length->listed.getD i false=true->∀k∈gs i,w.heap.size<=k/\k<w'.heap.size)/\
   ∀i j k,i<l.length->j<l.length->listed.getD i false=true->listed.getD j false=true->i≠j->k∈gs i->k∉gs j) ?_ ?_ ?_
 ·have hz:∀i,¬(Array.replicate l.toArray.size false).getD i false=true:=fun i h=>by
   rw [getD_replicate_false] at h
   cases h
  exact ⟨by simp,fun i o _ h=>absurd h (hz i),_,fun _=>[],ha,(Below.refl _ w).drew,fun i _ h=>absurd h (hz i),fun i _ h=>absurd h (hz i),fun i j k _ _ h=>absurd h (hz i)⟩
 ·rintro listed a' w' i ⟨hsz,hcl,vs,gs,rfl,hb,hR,hF,hN⟩ hi
  obtain ⟨h1,o,h2,h3⟩:=mem_ready.1 hi;have h2':l[i]? =some o:=by simpa using h2
  have hlt:i<l.length:=(Bj8.1 h2').1;have hun:∀j,listed.getD j false=true->j≠i:=by
   rintro j hj rfl;have:=getD_both h1;rw [this] at hj
   cases hj
  obtain ⟨hd,hg⟩:=hdst i o h2';unfold wpOp;simp only [h2];rw [if_pos (by simp [Region.wanted,hg])];refine .inl (hop i o h2' vs w' hb (fun e he hb'=>?_) _ (fun v g w'' hb2 hr hf=>?_))
  ·have h4:=h3 e he hb'
   have h5:e.on<l.length:=by have:=hord i o h2' e he hb';omega
   exact ⟨_,hR _ h5 h4⟩
  ·have hset:∀j,(listed.setIfInBounds i true).getD j false=true->j=i\/(j≠i/\listed.getD j false=true):=fun j hl=>by
    by_cases e:j=i
    ·exact .inl e
    ·rw [getD_set_ne false (fun h=>e h.symm)] at hl
     exact .inr ⟨e,hl⟩
   have hkeep:∀j,listed.getD j false=true->(listed.setIfInBounds i true).getD j false=true:=fun j hl=>by
    rw [getD_set_ne false (fun h=>hun j hl h.symm)];exact hl
   obtain ⟨gs2,hgs⟩:∃gs2:Nat->List Nat,gs2=fun j=>if j=i then g else gs j:=⟨_,rfl⟩
   have hgi:gs2 i=g:=by rw [hgs];exact if_pos rfl
   have hgn:∀j,j≠i->gs2 j=gs j:=fun j hj=>by rw [hgs];exact if_neg hj
   have hvi:Hl vs i v i=v:=if_pos rfl;have hvn:∀j,j≠i->Hl vs i v j=vs j:=fun j hj=>if_neg hj;have hsz2:=hb2.size;refine ⟨by simp [hsz],?_,Hl vs i v,gs2,Gw hinj hD hlt,hb.st hb2,?_,?_,?_⟩
   ·intro j oj hj hl e he hb'
    rcases hset j hl with rfl|⟨hji,hl'⟩
    ·rw [h2'] at hj
     cases hj
     exact hkeep _ (h3 e he hb')
    ·exact hkeep _ (hcl j oj hj hl' e he hb')
   ·intro j hj hl
    rcases hset j hl with rfl|⟨hji,hl'⟩
    ·rw [hvi,hgi]
     exact hloc j o h2' _ _ _ _ _ (fun e he hb'=>hvn _ (by have:=hord j o h2' e he hb';omega)) hr
    ·rw [hvn j hji,hgn j hji]
     exact hloc j l[j] (Bj0 hj) _ _ _ _ _ (fun e he hb'=>hvn _ (hun _ (hcl j l[j] (Bj0 hj) hl' e he hb'))) (hmono _ _ _ _ _ _ hb2 (hR j hj hl'))
   ·intro j hj hl k hk
    rcases hset j hl with rfl|⟨hji,hl'⟩
    ·rw [hgi] at hk
     have:=hf k hk;have:=hb.size;exact ⟨by omega,by omega⟩
    ·rw [hgn j hji] at hk
     have:=hF j hj hl' k hk;exact ⟨this.1,by omega⟩
   ·intro j1 j2 k hj1 hj2 hl1 hl2 hne hk1 hk2
    rcases hset j1 hl1 with rfl|⟨hji1,hl1'⟩<;>rcases hset j2 hl2 with e2|⟨hji2,hl2'⟩
    ·exact absurd e2.symm hne
    ·rw [hgi] at hk1
     rw [hgn j2 hji2] at hk2;have:=hf k hk1;have:=hF j2 hj2 hl2' k hk2;omega
    ·subst e2
     rw [hgi] at hk2;rw [hgn j1 hji1] at hk1;have:=hf k hk2;have:=hF j1 hj1 hl1' k hk1;omega
    ·rw [hgn j1 hji1] at hk1
     rw [hgn j2 hji2] at hk2;exact hN j1 j2 k hj1 hj2 hl1' hl2' hne hk1 hk2
 ·rintro listed a' w' ⟨hsz,hcl,vs,gs,rfl,hb,hR,hF,hN⟩ hr
  have hall:∀d i,i=d->i<l.length->listed.getD i false=true:=by
   intro d
   induction d using Nat.strongRecOn with
   |_ d ih=>
    rintro i rfl hi
    cases hl:listed.getD i false with
    |true=>rfl
    |false=>
     have hin:i∈Region.ready .any l.toArray listed:=by
      refine mem_ready.2 ⟨getD_in (by omega) hl,l[i],by simp [hi],fun e he hb'=>?_⟩;have h6:=hord i l[i] (Bj0 hi) e he hb';exact ih e.on h6 e.on rfl (by omega)
     rw [hr] at hin
     cases hin
  exact hend vs gs w' hb (fun i hi=>hR i hi (hall i i rfl hi)) (fun i k hi hk=>hF i hi (hall i i rfl hi) k hk) (fun i j k hi hj=>hN i j k hi hj (hall i i rfl hi) (hall j j rfl hj))
def Ae (l:List Oper) (i:Nat):Nat:=((l[i]?).bind (·.dst)).getD 0
def Cc (l:List Oper) (i j:Nat):Bool:=match l[i]? with
 |none=>false
 |some o=>o.after.toList.any fun e=>Region.binds .any e&&e.on==j
def Oy (l:List Oper) (sz:Nat):Bool:=(List.range l.length).all fun i=>match l[i]? with
 |none=>false
 |some o=>o.dst.isSome&&o.guard.isNone&&decide (Ae l i<sz)&&(o.after.all fun e=>!Region.binds .any e||decide (e.on<i))&&(List.range i).all fun j=>decide (Ae l j≠Ae l i)
def Bx (p:Nat->Oper->Prop):Nat->List Oper->Prop
 |_,[]=>True
 |k,o::l=>p k o/\Bx p (k+1) l
theorem Ej {p:Nat->Oper->Prop} (l:List Oper):∀(k:Nat),Bx p k l->∀i o,l[i]? =some o->p (k+i) o:=by
 induction l with
 |nil=>intro k _ i o e;simp at e
 |cons x l ih=>
  intro k h i o e
  cases i with
  |zero=>
   have e':x=o:=by simpa using e
   subst e';exact h.1
  |succ i=>
   have:=ih (k+1) h.2 i o (by simpa using e)
   rwa [show k+(i+1)=k+1+i by omega]
theorem Bd {l:List Oper} {sz:Nat} (h:Oy l sz=true) {i:Nat} {o:Oper} (hi:l[i]? =some o):
  o.dst.isSome=true/\o.guard.isNone=true/\Ae l i<sz/\(∀e∈o.after,Region.binds .any e=true->e.on<i)/\∀j,j<i->Ae l j≠Ae l i:=by
 have hlt:i<l.length:=(Bj8.1 hi).1;unfold Oy at h;have h1:=List.all_eq_true.1 h i (Bl9.2 hlt);rw [hi] at h1;clear h;simp only [Bool.and_eq_true] at h1;obtain ⟨⟨⟨⟨h2,h3⟩,h4⟩,h5⟩,h6⟩:=h1;refine ⟨h2,h3,of_decide_eq_true h4,fun e he hb=>?_,fun j hj=>?_⟩
 ·have h7:=Array.all_eq_true_iff_forall_mem.1 h5 e he
  rw [hb] at h7
  simpa using h7
 ·have h7:=List.all_eq_true.1 h6 j (Bl9.2 hj)
  exact of_decide_eq_true h7
theorem Ez {id:Nat} {l:List Oper} (R:Nat->Value->List Nat->(Nat->Value)->World->Prop) (hm:P.follows .mixedOrders=true) (hB:Oy l a.tmps.size=true)
  (hmono:∀i v g vs w w',Below w.heap.size w w'->R i v g vs w->R i v g vs w')
  (hloc:∀i v g vs vs' w,(∀j,Cc l i j=true->vs' j=vs j)->R i v g vs w->R i v g vs' w)
  (hop:Bx (fun i o=>∀(vs:Nat->Value) w',Below w.heap.size w w'->(∀j,Cc l i j=true->∃g,R j (vs j) g vs w')->
   ∀K:Act->World->Prop,(∀v g w'',Below w'.heap.size w' w''->R i v g vs w''->(∀k∈g,w'.heap.size<=k/\k<w''.heap.size)->K ((Al a (Ae l) vs l.length).put o.dst v) w'')->o.wp P (Al a (Ae l) vs l.length) w' K Q) 0 l)
  (hend:∀(vs:Nat->Value) (gs:Nat->List Nat) w',Below w.heap.size w w'->(∀i,i<l.length->R i (vs i) (gs i) vs w')->(∀i k,i<l.length->k∈gs i->w.heap.size<=k/\k<w'.heap.size)->(∀i j k,i<l.length->j<l.length->i≠j->k∈gs i->k∉gs j)->Q .normal (Al a (Ae l) vs l.length) w'):(Code.region id l.toArray true).wp P Q a w:=by
 have hg:=fun i (hi:i<l.length)=>Bd hB (Bj0 hi);have hds:∀i o,l[i]? =some o->o.dst=some (Ae l i):=fun i o hi=>by
  have h:=(Bd hB hi).1;obtain ⟨d,hd⟩:=Option.isSome_iff_exists.1 h;unfold Ae;rw [hi];simp [hd]
 have hdep:∀i o,l[i]? =some o->∀j,Cc l i j=true->∃e∈o.after,Region.binds .any e=true/\e.on=j:=fun i o hi j h=>by
  unfold Cc at h;simp only [hi] at h;obtain ⟨e,he,h2⟩:=List.any_eq_true.1 h;simp only [Bool.and_eq_true,beq_iff_eq] at h2;exact ⟨e,Array.mem_toList_iff.1 he,h2⟩
 refine Pw (Ae l) R hm (fun i hi=>(hg i hi).2.2.1) (fun i o hi=>⟨hds i o hi,by have:=(Bd hB hi).2.1;simpa using this⟩) ?_ (fun i o hi=>(Bd hB hi).2.2.2.1) hmono ?_ ?_ hend
 ·intro i j hi hj e
  rcases Nat.lt_trichotomy i j with h|h|h
  ·exact absurd e ((hg j hj).2.2.2.2 i h)
  ·exact h
  ·exact absurd e.symm ((hg i hi).2.2.2.2 j h)
 ·intro i o hi v g vs vs' w1 h hr
  refine hloc i v g vs vs' w1 (fun j hj=>?_) hr;obtain ⟨e,he,hb,rfl⟩:=hdep i o hi j hj;exact h e he hb
 ·intro i o hi vs w' hb hR K hK
  have h:=Ej l 0 hop i o hi;rw [Nat.zero_add] at h;refine h vs w' hb (fun j hj=>?_) K (fun v g w'' h1 h2 h3=>?_)
  ·obtain ⟨e,he,hb,rfl⟩:=hdep i o hi j hj
   exact hR e he hb
  ·rw [hds i o hi]
   exact hK v g w'' h1 h2 h3
end
end
end Go.Proofs.YteaaapdjplbljaaGreat
