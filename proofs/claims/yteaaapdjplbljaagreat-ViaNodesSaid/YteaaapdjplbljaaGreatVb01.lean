/- Parts; no condition. -/
import Derived.WalkKit
import Derived.WalkLawsBesides
import Derived.WalkSpells
import Derived.Outline
import Derived.Lib.Hide
import Derived.Shelf.Abstract
import Derived.Deep.LoopGhost
import Derived.Deep.Quiet
import Derived.Deep.QuietTactic
import Derived.BigQuiet
import Derived.Deep.AppendLies
import Derived.Deep.RegionWith
import Derived.Deep.RegionHeld3
import Derived.ScopeJumps
import Derived.StillTail
set_option linter.unusedVariables false
set_option linter.unusedSimpArgs false
set_option linter.unnecessarySimpa false
set_option maxRecDepth 100000
set_option maxHeartbeats 8000000
namespace Go.Proofs.YteaaapdjplbljaaGreat
section
open RowKit Shelf
abbrev Bm0:=@Lib.hid
abbrev Bm1:=@cell_later
abbrev Bm2:=@Nat.le_refl
abbrev Bm3:=@Nat.zero_le
abbrev Bm4:=@Nat.le_trans
abbrev Bm5:=@List.getElem?_eq_getElem
abbrev Bm6:=@List.getD_eq_getElem?_getD
abbrev Bm7:=@Array.getElem?_eq_some_iff
abbrev Bm8:=@World.cell?_setCell_other
abbrev Bm9:=@World.cell?_setCell_same
abbrev Bn0:=@World.block_lt_of_cell?
abbrev Bn1:=@List.length_set
abbrev Bn2:=@List.getElem_mem
abbrev Bn3:=@List.getElem?_eq_some_iff
abbrev Bn4:=@Int.toNat_natCast
abbrev Bn5:=@List.length_cons
abbrev Bn6:=@List.length_nil
abbrev Bn7:=@List.mem_singleton
abbrev Bn8:=@List.take_succ_eq_append_getElem
abbrev Bn9:=@List.getElem?_map
abbrev Bo0:=@List.setIfInBounds_toArray
abbrev Bo1:=@List.getElem?_cons_succ
abbrev Bo2:=@List.getElem?_cons_zero
abbrev Bo3:=@List.set_cons_zero
abbrev Bo4:=@List.set_cons_succ
abbrev Bo5:=@Option.getD_some
abbrev Bo6:=@Option.bind_some
abbrev Bo7:=@World.cell?_of_block
abbrev Bo8:=@List.mem_of_getElem?
abbrev Bo9:=@Option.some.inj
abbrev Bp0:=@List.length_append
abbrev Bp1:=@List.length_replicate
abbrev Bp2:=@List.mem_cons
abbrev Bp3:=@List.mem_append
abbrev Bp4:=@List.mem_range
abbrev Bp5:=@Array.getD_eq_getD_getElem?
abbrev Bp6:=@World.frozen?_setCell
abbrev Bp7:=@List.getElem?_eq_none
abbrev Bp8:=@List.getElem?_append_right
abbrev Bp9:=@List.getElem?_append_left
abbrev Bq0:=@List.getElem?_replicate
abbrev Bq1:=@List.map_append
abbrev Bq2:=@List.length_map
abbrev Bq3:=@List.append_assoc
abbrev Bq4:=@List.mem_iff_getElem
abbrev Bq5:=@World.cell?_setCell_far
abbrev Bq6:=@List.take_length
abbrev Bq7:=@Int.toNat_of_nonneg
abbrev Bq8:=@List.getElem?_set_ne
abbrev Bq9:=@List.getElem?_set_self
abbrev Br0:=@List.pairwise_append
abbrev Br1:=@List.getElem?_take_of_lt
abbrev Br2:=@IntKind.wrap_u64
end
section
open Go.Proofs Go.RowKit Go.Shelf
def Cel (w:World) (ao:Option Addr) (cs:List Value):Prop:=
 ∀i u,cs[i]? =some u->∃b o,ao=some ⟨b,o,none⟩/\w.cell? ⟨b,o+i,none⟩=some u
theorem _root_.Go.RowKit.Below.st {w a b:World} (h:Below w.heap.size w a) (k:Below a.heap.size a b):Below w.heap.size w b:=h.trans (k.mono h.size)
theorem _root_.Go.RowKit.Below.al {w a:World} (h:Below w.heap.size w a) (o:Obj):Below w.heap.size w (a.alloc o):=h.alloc h.size o
theorem _root_.Go.RowKit.Below.dr {w a:World} (h:Below w.heap.size w a) (n:Nat):Below w.heap.size w (a.drewN n):=below_drewN h n
theorem _root_.Go.RowKit.Below.of_dr (w:World) (n:Nat):Below w.heap.size w (w.drewN n):=below_drewN (Below.refl _ _) n
theorem _root_.Go.RowKit.Below.of_al (w:World) (o:Obj):Below w.heap.size w (w.alloc o):=(Below.refl _ _).al o
theorem Cel.nil (w:World) (ao:Option Addr):Cel w ao []:=fun i u h=>by simp at h
theorem Cel.below {w w':World} {ao:Option Addr} {cs:List Value} {B:Nat} (h:Cel w ao cs) (hb:Below B w w') (hB:w.heap.size<=B):Cel w' ao cs:=by
 intro i u hu;obtain ⟨b,o,e,hc⟩:=h i u hu;exact ⟨b,o,e,Bm1 (hb.mono hB) hc⟩
theorem Cel.at {α:Type} {w:World} {ao:Option Addr} {l:List α} {enc:α->Value} (h:Cel w ao (l.map enc)) {i:Nat} (hi:i<l.length):
  ∃b o,ao=some ⟨b,o,none⟩/\w.cell? ⟨b,o+i,none⟩=some (enc l[i]):=
 h i _ (by simp [hi])
theorem Cel.go {w w':World} {ao:Option Addr} {cs:List Value} (h:Cel w ao cs) (hb:Below w.heap.size w w'):Cel w' ao cs:=h.below hb (Bm2 _)
theorem Cel.of_owns {w:World} {base:Nat} {e:TypeId} {size n:Nat} {v:Value} {xs:List Value} (h:w.ownsRow base e size v n xs):
  ∃ao cap,v=.slice ao n cap/\Cel w ao xs:=by
 have h2:=h.2
 rcases h2 with ⟨rfl,rfl⟩|⟨g,cap,cur,rfl,hb,hg,rest⟩
 ·refine ⟨none,0,rfl,?_⟩
  have:xs=[]:=List.eq_nil_of_length_eq_zero (by simpa using h.1);subst this;exact Cel.nil _ _
 ·refine ⟨_,cap,rfl,fun i u hu=>⟨g,0,rfl,?_⟩⟩
  have:=h.cells (g:=g) rfl i u hu;rw [Addr.add_lit] at this;exact this
theorem ne_i {x y:Int} (h:(x != y)=true):x≠y:=by simpa using h
theorem eq_i {x y:Int} (h:(x != y)=false):x=y:=by simpa using h
def Ip {α:Type} (P:Program) (g:Nat) (cb:Array Value) (enc:α->Value) (p:α->Bool) (l:List α) (w:World):Prop:=
 ∀(W:World) (x:α),Below w.heap.size w W->x∈l->Calls P g (#[enc x]++cb) W fun e w'=>e=.returned (.bool (p x))/\Below W.heap.size W w'
def Fc {α:Type} (p:α->Bool):List α->Int
 |[]=>-1
 |x::r=>if p x then 0 else if Fc p r<0 then -1 else Fc p r+1
theorem Aj5 {α:Type} (p:α->Bool):∀l:List α,-1<=Fc p l
 |[]=>by simp [Fc]
 |x::r=>by
  have:=Aj5 p r;unfold Fc
  split
  ·omega
  ·split<;>omega
theorem Nc {α:Type} (p:α->Bool):∀l:List α,decide (0<=Fc p l)=l.any p
 |[]=>by simp [Fc]
 |x::r=>by
  have h:=Nc p r;unfold Fc
  by_cases hp:p x=true
  ·simp [hp]
  ·rw [Bool.eq_false_iff.2 hp,List.any_cons,<-h]
   have:=Aj5 p r;rw [Bool.eq_false_iff.2 hp,Bool.false_or];simp only [Bool.false_eq_true,if_false]
   split<;>(congr 1;apply propext;omega)
theorem Fx {α:Type} (p:α->Bool):∀l:List α,(∀j (h:j<l.length),p l[j]=false)->Fc p l= -1
 |[],_=>rfl
 |x::r,h=>by
  unfold Fc;rw [show p x=false from h 0 (by simp),Fx p r (fun j hj=>h (j+1) (by simpa using hj))];simp
theorem Hn {α:Type} (p:α->Bool):∀(l:List α) (k:Nat) (hk:k<l.length),p l[k]=true->(∀j (h:j<l.length),j<k->p l[j]=false)->Fc p l=(k:Int)
 |x::r,0,_,h,_=>by unfold Fc;rw [show p x=true from h];rfl
 |x::r,k+1,hk,h,hb=>by
  unfold Fc;rw [show p x=false from hb 0 (by simp) (by omega),Hn p r k (by simpa using hk) h (fun j hj h2=>hb (j+1) (by simpa using hj) (by omega))];simp;omega
abbrev Ai (n:Int):Value:=.int .i64 n
abbrev Cb (n:Int):Value:=.int .u64 n
structure EP where
 d:Nat
 os:Array Obj
 deriving Inhabited
def ext (w:World) (p:EP):World:={ w with heap:=w.heap++p.os,drawn:=p.d }
theorem Ah (w:World) (p:EP):Below w.heap.size w (ext w p):=
 ⟨rfl,rfl,rfl,by simp [ext],fun k hk=>by simp [ext,Array.getElem?_append,hk]⟩
theorem Fs {w w':World} (h:Below w.heap.size w w'):∃p,w'=ext w p:=by
 refine ⟨⟨w'.drawn,w'.heap.extract w.heap.size w'.heap.size⟩,?_⟩;have hh:w'.heap=w.heap++w'.heap.extract w.heap.size w'.heap.size:=by
  apply Array.ext_getElem?
  intro i;rw [Array.getElem?_append]
  split
  ·rename_i hi;exact h.block i hi
  ·rename_i hi
   rw [Array.getElem?_extract];have hs:=h.size
   split
   ·congr 1;omega
   ·rename_i h2
    rw [Array.getElem?_eq_none (by omega)]
 cases w' with
 |mk hp tp dr os out=>
  obtain ⟨h1,h2,h3,h4,h5⟩:=h;simp only at h1 h2 h3 hh;subst h1 h2 h3;unfold ext;simp only;rw [<-hh]
theorem Ab {w:World} {a:Addr} {v:Value} (p:EP) (h:w.cell? a=some v):(ext w p).cell? a=some v:=Bm1 (Ah w p) h
theorem Calls.ext_of {P:Program} {f:FuncId} {args:Array Value} {w:World} {p:EP} {v:Value}
  (h:Calls P f args (ext w p) fun e w'=>e=.returned v/\Below (ext w p).heap.size (ext w p) w'):Calls P f args (ext w p) fun e w''=>e=.returned v/\∃p':EP,w''=ext w p':=
 h.mono fun _ _ ⟨he,hb⟩=>⟨he,Fs ((Ah w p).st hb)⟩
theorem Calls.ext_of_same {P:Program} {f:FuncId} {args:Array Value} {w:World} {p:EP} {v:Value}
  (h:Calls P f args (ext w p) fun e w'=>e=.returned v/\ext w p=w'):Calls P f args (ext w p) fun e w''=>e=.returned v/\∃p':EP,w''=ext w p':=
 h.mono fun _ _ ⟨he,hb⟩=>⟨he,p,hb.symm⟩
theorem Af {P:Program} {id:Nat} {Q:Exit->Act->World->Prop} {a:Act} {w:World} {l:List Oper} (hm:P.follows .mixedOrders=true) (hB:Region.lexB .any l.toArray=true)
  (h:wpQuiet P l.toArray (fun w'=>∃p:EP,w'=ext w p) (fun a'=>∀w',(∃p:EP,w'=ext w p)->Q .normal a' w') l a):(Code.region id l.toArray true).wp P Q a w:=
 wp_region_quiet (C:=fun w'=>∃p:EP,w'=ext w p) hm hB (Fs (below_drewN (Below.refl _ w) 1)) (by simpa using h)
def lit (n:Nat) (u:Nat->Value):Act:=⟨((List.range n).map u).toArray,[]⟩
theorem Ad3 (n:Nat) (a:Act) (h:a.tmps.size=n) (hd:a.defers=[]):a=lit n (fun i=>a.tmps.getD i undef):=by
 cases a with
 |mk t d=>
  simp only at h hd;subst hd;unfold lit
  congr 1
  apply Array.ext
  ·simp [h]
  ·intro i h1 h2
   simp [h1]
def Exit.jumps (J:Nat->Act->World->Prop) (Q:Exit->Act->World->Prop):Exit->Act->World->Prop
 | .goto l,a,w=>J l a w
 |e,a,w=>Q e a w
section
variable {P:Program} {a:Act} {w:World} {Q:Exit->Act->World->Prop} {J:Nat->Act->World->Prop}
@[go_sem] theorem Be9:Exit.jumps J Q .normal a w=Q .normal a w:=rfl
@[go_sem] theorem Bj3 (id:Nat):Exit.jumps J Q (.exit id) a w=Q (.exit id) a w:=rfl
@[go_sem] theorem Uw:Exit.jumps J Q .ret a w=Q .ret a w:=rfl
@[go_sem] theorem Bg8 (ch:List PanicEntry):Exit.jumps J Q (.panic ch) a w=Q (.panic ch) a w:=rfl
@[go_sem] theorem Mf (l:Nat):Exit.jumps J Q (.goto l) a w=J l a w:=rfl
theorem Pz {c:Code} (n₀:Nat) (J:Nat->Nat->Act->World->Prop)
  (first:c.wp P (Exit.jumps (J n₀) Q) a w)
  (pass:∀n l a w,J n l a w->∃rest,findLabel c l=some rest/\rest.wp P (Exit.jumps (fun l' a' w'=>∃n',n'<n/\J n' l' a' w') Q) a w):(Code.scope c).wp P Q a w:=by
 intro b k cs;have hg:∀l rest,findLabel c l=some rest->gotoIn l (.inScope c::k)=some (.code rest::.inScope c::k):=fun l rest hf=>by simp [gotoIn,hf]
 have key:∀n l a w,J n l a w->∃rest,findLabel c l=some rest/\∃e a' w',Q e a' w'/\Arrives P (lone (b.at a (.code rest::.inScope c::k)) cs w) b k cs e a' w':=by
  intro n
  induction n using Nat.strongRecOn with
  |_ n ih=>
   intro l a w hJ;obtain ⟨rest,hf,hwp⟩:=pass n l a w hJ;refine ⟨rest,hf,?_⟩;obtain ⟨e,a₁,w₁,hq,harr⟩:=hwp b (.inScope c::k) cs
   cases e with
   |normal=>exact ⟨.normal,a₁,w₁,hq,Steps.trans harr (.one step_inScope)⟩
   |exit id=>exact ⟨.exit id,a₁,w₁,hq,fun k' hk=>harr k' (by simp [exitTo,hk])⟩
   |goto l'=>
    obtain ⟨n',hlt,hJ'⟩:=hq;obtain ⟨rest',hf',e₂,a₂,w₂,hq₂,harr₂⟩:=ih n' hlt l' a₁ w₁ hJ';exact ⟨e₂,a₂,w₂,hq₂,.of_steps (harr _ (hg _ _ hf')) harr₂⟩
   |ret=>exact ⟨_,a₁,w₁,hq,harr⟩
   |panic ch=>exact ⟨_,a₁,w₁,hq,harr⟩
   |outgrown=>exact ⟨_,a₁,w₁,hq,harr⟩
 obtain ⟨e,a₁,w₁,hq,harr⟩:=first b (.inScope c::k) cs
 cases e with
 |normal=>exact ⟨.normal,a₁,w₁,hq,.head step_scope (Steps.trans harr (.one step_inScope))⟩
 |exit id=>exact ⟨.exit id,a₁,w₁,hq,fun k' hk=>.head step_scope (harr k' (by simp [exitTo,hk]))⟩
 |goto l'=>
  obtain ⟨rest',hf',e₂,a₂,w₂,hq₂,harr₂⟩:=key n₀ l' a₁ w₁ hq;exact ⟨e₂,a₂,w₂,hq₂,.of_steps (.head step_scope (harr _ (hg _ _ hf'))) harr₂⟩
 |ret=>exact ⟨_,a₁,w₁,hq,.of_steps (.one step_scope) harr⟩
 |panic ch=>exact ⟨_,a₁,w₁,hq,.of_steps (.one step_scope) harr⟩
 |outgrown=>exact ⟨_,a₁,w₁,hq,.of_steps (.one step_scope) harr⟩
theorem Lf {c r:Code} (l₀ n₀:Nat) (J:Nat->Nat->Act->World->Prop) (hf:findLabel c l₀=some (.seq .skip r)) (hJ:∀n n' l a w,n<=n'->J n l a w->J n' l a w)
  (first:(∀a w,J n₀ l₀ a w->r.wp P (Exit.jumps (J n₀) Q) a w)->c.wp P (Exit.jumps (J n₀) Q) a w)
  (pass₀:∀n a w,J n l₀ a w->r.wp P (Exit.jumps (fun l' a' w'=>∃n',n'<n/\J n' l' a' w') Q) a w)
  (pass:∀n l a w,l≠l₀->J n l a w->∃rest,findLabel c l=some rest/\rest.wp P (Exit.jumps (fun l' a' w'=>∃n',n'<n/\J n' l' a' w') Q) a w):(Code.scope c).wp P Q a w:=by
 refine Pz n₀ J (first ?_) ?_
 ·intro a w hj
  refine Code.wp_mono ?_ (pass₀ (n₀+1) a w (hJ _ _ _ _ _ (Nat.le_succ _) hj));intro e a w hq
  cases e with
  |goto l=>obtain ⟨n',hlt,hj'⟩:=hq;exact hJ _ _ _ _ _ (by omega) hj'
  |_=>exact hq
 ·intro n l a w hj
  by_cases hl:l=l₀
  ·subst hl
   refine ⟨_,hf,wp_seq_k ?_⟩;intro K hK;exact wp_skip (hK _ _ (pass₀ n a w hj))
  ·exact pass n l a w hl hj
end
def Gm (P:Program) (E:TypeId) (z:Value) (size bytes:Nat):Prop:=
 (P.info? E).map (fun i=>(i.zero,i.size,i.bytes))=some (some z,size,bytes)/\z.cells.size=size/\0<size
theorem Qh {w:World} {base:Nat} {e:TypeId} {size:Nat} {v:Value} {n:Nat} {xs:List Value} (h:w.ownsRow base e size v n xs) (q:Nat):(w.drewN q).ownsRow base e size v n xs:=h
theorem Cd {u:Value} (h:u.oneCell'=true):∀x∈[u],x.oneCell'=true:=fun x hx=>by
 rw [Bn7.1 hx];exact h
theorem Ca {P:Program} {w:World} {ops:Array Oper} {rest:List Oper} {a:Act} {Q:Exit->Act->World->Prop} {d:Option Tmp} {t ty:TypeId} {s x:Operand} {pos:String} {aft:Array Edge}
  (base:Nat) (E:TypeId) (z:Value) (size bytes:Nat) (hE:Gm P E z size bytes) (ht:P.underlying t=some (.slice E))
  (v:Value) (n:Nat) (xs:List Value) (ad:Addr) (m c:Nat) (news:List Value) (hs:a.eval s=v) (hx:a.eval x=.slice (some ad) m c)
  (hown:w.ownsRow base E size v n xs) (hnews:∀j u,news[j]? =some u->w.cell? (ad.add j)=some u) (h1:∀u∈news,u.oneCell'=true)
  (hl:news.length=m*size/\0<m/\n+m<=9223372036854775807/\(n+m)*bytes<=140737488355328/\base<=w.heap.size)
  (hK:∀g cap w',w'.ownsRow base E size (.slice (some ⟨g,0,none⟩) (n+m) cap) (n+m) (xs++news)->w.grownBy w' v.ownBlock->Below base w w'->
   (v.ownBlock=some g\/g=w.heap.size)->g<w'.heap.size->wpList P ops Q rest (a.put d (.slice (some ⟨g,0,none⟩) (n+m) cap)) w'):
  wpList P ops Q (⟨d,.call { callee:=.builtin .append,args:=#[s,x],argTypes:=#[t,t] },ty,pos,aft,none⟩::rest) a w:=by
 obtain ⟨hE,hz1,hz2⟩:=hE;obtain ⟨i,hi,hz,hsz,hby⟩:=info_parts hE;obtain ⟨l1,l2,l3,l4,l5⟩:=hl;refine wpList_append_lies w rfl s x t rfl base E i z size bytes ht hi hz hsz hby hz1 hz2 v n xs hs hown ad m c news hx l1 hnews h1 l2 (by unfold maxLen;omega) l4 l5 _ rfl ?_;intro g cap w' ho hg hat hlt;exact hK g cap w' ho hg ((Below.refl _ w).grown hg l5 (fun k hk=>(hown.lt k hk).1)) hat hlt
theorem Em {P:Program} {w:World} {ops:Array Oper} {rest:List Oper} {a:Act} {Q:Exit->Act->World->Prop} {d:Option Tmp} {t ty:TypeId} {l c:Operand} {pos:String} {aft:Array Edge}
  (base:Nat) (E:TypeId) (z:Value) (size bytes:Nat) (hE:Gm P E z size bytes) (ht:P.underlying t=some (.slice E))
  (n:Nat) (kl kc:IntKind) (L C:Int) (hl:a.eval l=.int kl L) (hc:a.eval c=.int kc C)
  (h:L=(n:Int)/\C=(n:Int)/\bytes*n<=281474976710656/\n<=9223372036854775807/\base<=w.heap.size)
  (hK:∀w',w'.ownsRow base E size (.slice (some ⟨w.heap.size,0,none⟩) n n) n (madeCells z.cells (n*size)).toList->Below w.heap.size w w'->w.heap.size<w'.heap.size->
   wpList P ops Q rest (a.put d (.slice (some ⟨w.heap.size,0,none⟩) n n)) w'):
  wpList P ops Q (⟨d,.makeSlice t l c,ty,pos,aft,none⟩::rest) a w:=by
 obtain ⟨hE,hz1,hz2⟩:=hE;obtain ⟨i,hi,hz,hsz,hby⟩:=info_parts hE;obtain ⟨h1,h2,h3,h4,h5⟩:=h;refine wpList_make_full w rfl l c t rfl base E i z size ht hi hz hsz kl kc L C n hl hc h1 h2 (by rw [hby];exact h3) (by unfold maxLen;omega) h5 ?_;intro w' ho hg;refine hK w' ho ((Below.refl _ w).grown hg (Bm2 _) (fun k hk=>by cases hk)) ?_
 rcases ho.2 with ⟨e,_⟩|⟨g,cap,cur,e,_,hgg,_⟩
 ·cases e
 ·cases e
  exact (Bm7.1 hgg).1
end
section
open Go Go.Proofs Go.RowKit
section
variable {P:Program} {ops:Array Oper} {md:Region.Mode} {Q:Exit->Act->World->Prop}
def Eo (listed:Array Bool):Nat->Nat
 |0=>0
 |n+1=>Eo listed n+(if listed.getD n true=false then 1 else 0)
theorem Qv {listed:Array Bool} {i:Nat}:∀{n:Nat},Eo (listed.setIfInBounds i true) n<=Eo listed n
 |0=>Bm2 _
 |n+1=>by
  have ih:=Qv (listed:=listed) (i:=i) (n:=n);unfold Eo
  by_cases e:i=n
  ·subst e
   have:¬(listed.setIfInBounds i true).getD i true=false:=by
    rcases Nat.lt_or_ge i listed.size with h|h<;>simp [h]
   rw [if_neg this];omega
  ·rw [getD_set_ne true e]
   omega
theorem Nv {listed:Array Bool} {i:Nat}:∀{n:Nat},i<n->listed.getD i true=false->Eo (listed.setIfInBounds i true) n<Eo listed n
 |n+1,hi,hf=>by
  unfold Eo
  by_cases e:i=n
  ·subst e
   have h1:=Qv (listed:=listed) (i:=i) (n:=i);have:¬(listed.setIfInBounds i true).getD i true=false:=by
    rcases Nat.lt_or_ge i listed.size with h|h<;>simp [h]
   rw [if_neg this,if_pos hf];omega
  ·have ih:=Nv (n:=n) (by omega) hf
   rw [getD_set_ne true e];omega
theorem Nw (listed:Array Bool):∀n,Eo listed n<=n
 |0=>Bm2 _
 |n+1=>by
  have:=Nw listed n;unfold Eo
  split<;>omega
theorem Ji {listed:Array Bool}:∀{n i:Nat},Eo listed n=0->i<n->listed.getD i true≠false
 |n+1,i,h,hi=>by
  unfold Eo at h
  by_cases e:i=n
  ·subst e
   intro hf;rw [if_pos hf] at h;omega
  ·exact Ji (n:=n) (by omega) (by omega)
theorem Tv (J:Array Bool->Act->World->Prop) (hJ:∀listed a w i,J listed a w->i∈Region.ready md ops listed->wpOp P ops Q i (fun a' w'=>J (listed.setIfInBounds i true) a' w') a w)
  (hend:∀listed a w,J listed a w->Region.ready md ops listed=[]->Q .normal a w):
  ∀(fuel:Nat) (listed:Array Bool) (a:Act) (w:World),Eo listed ops.size<=fuel->J listed a w->wpAny P md ops Q fuel listed a w
 |0,listed,a,w,hf,h=>by
  have hr:Region.ready md ops listed=[]:=by
   rw [List.eq_nil_iff_forall_not_mem];intro i hi;obtain ⟨h1,o,h2,_⟩:=mem_ready.1 hi;have hlt:i<ops.size:=(Bm7.1 h2).1;exact Ji (by omega) hlt h1
  exact ⟨hr,hend _ _ _ h hr⟩
 |fuel+1,listed,a,w,hf,h=>by
  refine ⟨hend _ _ _ h,fun i hi=>?_⟩;obtain ⟨h1,o,h2,_⟩:=mem_ready.1 hi;have hlt:i<ops.size:=(Bm7.1 h2).1;have hc:=Nv hlt h1;exact wpOp_mono (fun a' w' h'=>Tv J hJ hend fuel _ a' w' (by omega) h') (hJ _ _ _ _ h hi)
theorem Dl {id:Nat} {a:Act} {w:World} {l:List Oper} (hm:P.follows .mixedOrders=true) (J:Array Bool->Act->World->Prop) (h0:J (Array.replicate l.toArray.size false) a w.drew)
  (hJ:∀listed a w i,J listed a w->i∈Region.ready .any l.toArray listed->wpOp P l.toArray Q i (fun a' w'=>J (listed.setIfInBounds i true) a' w') a w)
  (hend:∀listed a w,J listed a w->Region.ready .any l.toArray listed=[]->Q .normal a w):(Code.region id l.toArray true).wp P Q a w:=
 wp_region_any hm (Tv J hJ hend _ _ _ _ (Nw _ _) h0)
end
end
section
open Go Go.Proofs Go.RowKit
section
def Al (a:Act) (D:Nat->Nat) (vs:Nat->Value):Nat->Act
 |0=>a
 |n+1=>(Al a D vs n).put (some (D n)) (vs n)
variable {a a':Act} {D:Nat->Nat} {vs:Nat->Value}
theorem Kg:∀n,(Al a D vs n).tmps.size=a.tmps.size
 |0=>rfl
 |n+1=>by
  show ((Al a D vs n).tmps.setIfInBounds _ _).size=_
  rw [Array.size_setIfInBounds,Kg n]
theorem Jq:∀n,(Al a D vs n).defers=a.defers
 |0=>rfl
 |n+1=>Jq n
theorem Dy {t:Nat}:∀{n:Nat},(∀i,i<n->D i≠t)->(Al a D vs n).tmps[t]? =a.tmps[t]?
 |0,_=>rfl
 |n+1,h=>by
  show ((Al a D vs n).tmps.setIfInBounds _ _)[t]? =_
  rw [Array.getElem?_setIfInBounds_ne (h n (by omega)),Dy (fun i hi=>h i (by omega))]
theorem Fp {i:Nat}:∀{n:Nat},(∀i j,i<n->j<n->D i=D j->i=j)->i<n->D i<a.tmps.size->(Al a D vs n).tmps[D i]? =some (vs i)
 |n+1,hinj,hi,hs=>by
  show ((Al a D vs n).tmps.setIfInBounds _ _)[D i]? =_
  by_cases e:i=n
  ·subst e
   rw [Array.getElem?_setIfInBounds_self_of_lt (by rw [Kg];exact hs)]
  ·rw [Array.getElem?_setIfInBounds_ne (fun h=>e (hinj i n hi (by omega) h.symm)),Fp (fun i j hi hj=>hinj i j (by omega) (by omega)) (by omega) hs]
theorem Gr {n:Nat} (hinj:∀i j,i<n->j<n->D i=D j->i=j) (hs:a'.tmps.size=a.tmps.size) (hd:a'.defers=a.defers) (hD:∀i,i<n->D i<a.tmps.size)
  (h:∀t,(∀i,i<n->D i≠t)->a'.tmps[t]? =a.tmps[t]?):a'=Al a D (fun i=>a'.tmps.getD (D i) undef) n:=by
 have ht:a'.tmps=(Al a D (fun i=>a'.tmps.getD (D i) undef) n).tmps:=by
  apply Array.ext_getElem?
  intro t
  by_cases e:∃i,i<n/\D i=t
  ·obtain ⟨i,hi,rfl⟩:=e
   rw [Fp hinj hi (hD i hi)];have:D i<a'.tmps.size:=by rw [hs];exact hD i hi
   rw [Bp5,Array.getElem?_eq_getElem this];rfl
  ·have hne:∀i,i<n->D i≠t:=fun i hi h'=>e ⟨i,hi,h'⟩
   rw [Dy hne,h t hne]
 have hdd:=Jq (a:=a) (D:=D) (vs:=fun i=>a'.tmps.getD (D i) undef) n;rw [<-hd] at hdd
 cases a' with
 |mk tm df=>
  generalize hp:Al a D (fun i=>(Act.mk tm df).tmps.getD (D i) undef) n=p at*
  cases p with
  |mk tm' df'=>simp only at ht hdd;rw [ht,hdd]
def Gn (vs:Nat->Value) (i:Nat) (v:Value):Nat->Value:=fun j=>if j=i then v else vs j
theorem Gf {n i:Nat} {v:Value} (hinj:∀i j,i<n->j<n->D i=D j->i=j) (hD:∀i,i<n->D i<a.tmps.size) (hi:i<n):(Al a D vs n).put (some (D i)) v=Al a D (Gn vs i v) n:=by
 have h0:=Gr (a:=a) (a':=(Al a D vs n).put (some (D i)) v) hinj (by show ((Al a D vs n).tmps.setIfInBounds _ _).size=_;rw [Array.size_setIfInBounds,Kg]) (Jq n) hD (fun t ht=>by
  show ((Al a D vs n).tmps.setIfInBounds _ _)[t]? =_
  rw [Array.getElem?_setIfInBounds_ne (ht i hi),Dy ht])
 rw [h0];have:∀m,m<=n->Al a D (fun j=>((Al a D vs n).put (some (D i)) v).tmps.getD (D j) undef) m=Al a D (Gn vs i v) m:=by
  intro m
  induction m with
  |zero=>intro _;rfl
  |succ m ih=>
   intro hm
   show Act.put _ _ _=Act.put _ _ _
   rw [ih (by omega)]
   congr 1
   show ((Al a D vs n).tmps.setIfInBounds (D i) v).getD (D m) undef=if m=i then v else vs m
   rw [Bp5]
   by_cases e:m=i
   ·subst e
    rw [Array.getElem?_setIfInBounds_self_of_lt (by rw [Kg];exact hD m hi),if_pos rfl];rfl
   ·rw [Array.getElem?_setIfInBounds_ne (fun h=>e (hinj i m hi (by omega) h).symm),Fp hinj (by omega) (hD m (by omega)),if_neg e]
    rfl
 exact this n (Bm2 _)
variable {P:Program} {Q:Exit->Act->World->Prop} {w:World}
theorem Qt {id:Nat} {l:List Oper} (D:Nat->Nat) (R:Nat->Value->List Nat->(Nat->Value)->World->Prop) (hm:P.follows .mixedOrders=true)
  (hD:∀i,i<l.length->D i<a.tmps.size) (hdst:∀i o,l[i]? =some o->o.dst=some (D i)/\o.guard=none) (hinj:∀i j,i<l.length->j<l.length->D i=D j->i=j)
  (hord:∀i o,l[i]? =some o->∀e∈o.after,Region.binds .any e=true->e.on<i) (hmono:∀i v g vs w w',Below w.heap.size w w'->R i v g vs w->R i v g vs w')
  (hloc:∀i o,l[i]? =some o->∀v g vs vs' w,(∀e∈o.after,Region.binds .any e=true->vs' e.on=vs e.on)->R i v g vs w->R i v g vs' w)
  (hop:∀i o,l[i]? =some o->∀(vs:Nat->Value) w',Below w.heap.size w w'->(∀e∈o.after,Region.binds .any e=true->∃g,R e.on (vs e.on) g vs w')->
   ∀K:Act->World->Prop,(∀v g w'',Below w'.heap.size w' w''->R i v g vs w''->(∀k∈g,w'.heap.size<=k/\k<w''.heap.size)->K ((Al a D vs l.length).put (some (D i)) v) w'')->o.wp P (Al a D vs l.length) w' K Q)
  (hend:∀(vs:Nat->Value) (gs:Nat->List Nat) w',Below w.heap.size w w'->(∀i,i<l.length->R i (vs i) (gs i) vs w')->(∀i k,i<l.length->k∈gs i->w.heap.size<=k/\k<w'.heap.size)->(∀i j k,i<l.length->j<l.length->i≠j->k∈gs i->k∉gs j)->Q .normal (Al a D vs l.length) w'):(Code.region id l.toArray true).wp P Q a w:=by
 have ha:=Gr (a:=a) (a':=a) hinj rfl rfl hD (fun _ _=>rfl);refine Dl hm (fun listed a' w'=>listed.size=l.length/\(∀i o,l[i]? =some o->listed.getD i false=true->∀e∈o.after,Region.binds .any e=true->listed.getD e.on false=true)/\
  ∃(vs:Nat->Value) (gs:Nat->List Nat),a'=Al a D vs l.length/\Below w.heap.size w w'/\(∀i,i<l.length->listed.getD i false=true->R i (vs i) (gs i) vs w')/\(∀i,i<l.length->listed.getD i false=true->∀k∈gs i,w.heap.size<=k/\k<w'.heap.size)/\
   ∀i j k,i<l.length->j<l.length->listed.getD i false=true->listed.getD j false=true->i≠j->k∈gs i->k∉gs j) ?_ ?_ ?_
 ·have hz:∀i,¬(Array.replicate l.toArray.size false).getD i false=true:=fun i h=>by
   rw [getD_replicate_false] at h
   cases h
  exact ⟨by simp,fun i o _ h=>absurd h (hz i),_,fun _=>[],ha,(Below.refl _ w).drew,fun i _ h=>absurd h (hz i),fun i _ h=>absurd h (hz i),fun i j k _ _ h=>absurd h (hz i)⟩
 ·rintro listed a' w' i ⟨hsz,hcl,vs,gs,rfl,hb,hR,hF,hN⟩ hi
  obtain ⟨h1,o,h2,h3⟩:=mem_ready.1 hi;have h2':l[i]? =some o:=by simpa using h2
  have hlt:i<l.length:=(Bn3.1 h2').1;have hun:∀j,listed.getD j false=true->j≠i:=by
   rintro j hj rfl;have:=getD_both h1;rw [this] at hj
   cases hj
  obtain ⟨hd,hg⟩:=hdst i o h2';unfold wpOp;simp only [h2];rw [if_pos (by simp [Region.wanted,hg])];refine .inl (hop i o h2' vs w' hb (fun e he hb'=>?_) _ (fun v g w'' hb2 hr hf=>?_))
  ·have h4:=h3 e he hb'
   have h5:e.on<l.length:=by have:=hord i o h2' e he hb';omega
   exact ⟨_,hR _ h5 h4⟩
  ·have hset:∀j,(listed.setIfInBounds i true).getD j false=true->j=i\/(j≠i/\listed.getD j false=true):=fun j hl=>by
    by_cases e:j=i
    ·exact .inl e
    ·rw [getD_set_ne false (fun h=>e h.symm)] at hl
     exact .inr ⟨e,hl⟩
   have hkeep:∀j,listed.getD j false=true->(listed.setIfInBounds i true).getD j false=true:=fun j hl=>by
    rw [getD_set_ne false (fun h=>hun j hl h.symm)];exact hl
   obtain ⟨gs2,hgs⟩:∃gs2:Nat->List Nat,gs2=fun j=>if j=i then g else gs j:=⟨_,rfl⟩
   have hgi:gs2 i=g:=by rw [hgs];exact if_pos rfl
   have hgn:∀j,j≠i->gs2 j=gs j:=fun j hj=>by rw [hgs];exact if_neg hj
   have hvi:Gn vs i v i=v:=if_pos rfl;have hvn:∀j,j≠i->Gn vs i v j=vs j:=fun j hj=>if_neg hj;have hsz2:=hb2.size;refine ⟨by simp [hsz],?_,Gn vs i v,gs2,Gf hinj hD hlt,hb.st hb2,?_,?_,?_⟩
   ·intro j oj hj hl e he hb'
    rcases hset j hl with rfl|⟨hji,hl'⟩
    ·rw [h2'] at hj
     cases hj
     exact hkeep _ (h3 e he hb')
    ·exact hkeep _ (hcl j oj hj hl' e he hb')
   ·intro j hj hl
    rcases hset j hl with rfl|⟨hji,hl'⟩
    ·rw [hvi,hgi]
     exact hloc j o h2' _ _ _ _ _ (fun e he hb'=>hvn _ (by have:=hord j o h2' e he hb';omega)) hr
    ·rw [hvn j hji,hgn j hji]
     exact hloc j l[j] (Bm5 hj) _ _ _ _ _ (fun e he hb'=>hvn _ (hun _ (hcl j l[j] (Bm5 hj) hl' e he hb'))) (hmono _ _ _ _ _ _ hb2 (hR j hj hl'))
   ·intro j hj hl k hk
    rcases hset j hl with rfl|⟨hji,hl'⟩
    ·rw [hgi] at hk
     have:=hf k hk;have:=hb.size;exact ⟨by omega,by omega⟩
    ·rw [hgn j hji] at hk
     have:=hF j hj hl' k hk;exact ⟨this.1,by omega⟩
   ·intro j1 j2 k hj1 hj2 hl1 hl2 hne hk1 hk2
    rcases hset j1 hl1 with rfl|⟨hji1,hl1'⟩<;>rcases hset j2 hl2 with e2|⟨hji2,hl2'⟩
    ·exact absurd e2.symm hne
    ·rw [hgi] at hk1
     rw [hgn j2 hji2] at hk2;have:=hf k hk1;have:=hF j2 hj2 hl2' k hk2;omega
    ·subst e2
     rw [hgi] at hk2;rw [hgn j1 hji1] at hk1;have:=hf k hk2;have:=hF j1 hj1 hl1' k hk1;omega
    ·rw [hgn j1 hji1] at hk1
     rw [hgn j2 hji2] at hk2;exact hN j1 j2 k hj1 hj2 hl1' hl2' hne hk1 hk2
 ·rintro listed a' w' ⟨hsz,hcl,vs,gs,rfl,hb,hR,hF,hN⟩ hr
  have hall:∀d i,i=d->i<l.length->listed.getD i false=true:=by
   intro d
   induction d using Nat.strongRecOn with
   |_ d ih=>
    rintro i rfl hi
    cases hl:listed.getD i false with
    |true=>rfl
    |false=>
     have hin:i∈Region.ready .any l.toArray listed:=by
      refine mem_ready.2 ⟨getD_in (by omega) hl,l[i],by simp [hi],fun e he hb'=>?_⟩;have h6:=hord i l[i] (Bm5 hi) e he hb';exact ih e.on h6 e.on rfl (by omega)
     rw [hr] at hin
     cases hin
  exact hend vs gs w' hb (fun i hi=>hR i hi (hall i i rfl hi)) (fun i k hi hk=>hF i hi (hall i i rfl hi) k hk) (fun i j k hi hj=>hN i j k hi hj (hall i i rfl hi) (hall j j rfl hj))
def Ae (l:List Oper) (i:Nat):Nat:=((l[i]?).bind (·.dst)).getD 0
def Bx (l:List Oper) (i j:Nat):Bool:=match l[i]? with
 |none=>false
 |some o=>o.after.toList.any fun e=>Region.binds .any e&&e.on==j
def Pt (l:List Oper) (sz:Nat):Bool:=(List.range l.length).all fun i=>match l[i]? with
 |none=>false
 |some o=>o.dst.isSome&&o.guard.isNone&&decide (Ae l i<sz)&&(o.after.all fun e=>!Region.binds .any e||decide (e.on<i))&&(List.range i).all fun j=>decide (Ae l j≠Ae l i)
def Bs (p:Nat->Oper->Prop):Nat->List Oper->Prop
 |_,[]=>True
 |k,o::l=>p k o/\Bs p (k+1) l
theorem Dp {p:Nat->Oper->Prop} (l:List Oper):∀(k:Nat),Bs p k l->∀i o,l[i]? =some o->p (k+i) o:=by
 induction l with
 |nil=>intro k _ i o e;simp at e
 |cons x l ih=>
  intro k h i o e
  cases i with
  |zero=>
   have e':x=o:=by simpa using e
   subst e';exact h.1
  |succ i=>
   have:=ih (k+1) h.2 i o (by simpa using e)
   rwa [show k+(i+1)=k+1+i by omega]
theorem Bg {l:List Oper} {sz:Nat} (h:Pt l sz=true) {i:Nat} {o:Oper} (hi:l[i]? =some o):
  o.dst.isSome=true/\o.guard.isNone=true/\Ae l i<sz/\(∀e∈o.after,Region.binds .any e=true->e.on<i)/\∀j,j<i->Ae l j≠Ae l i:=by
 have hlt:i<l.length:=(Bn3.1 hi).1;unfold Pt at h;have h1:=List.all_eq_true.1 h i (Bp4.2 hlt);rw [hi] at h1;clear h;simp only [Bool.and_eq_true] at h1;obtain ⟨⟨⟨⟨h2,h3⟩,h4⟩,h5⟩,h6⟩:=h1;refine ⟨h2,h3,of_decide_eq_true h4,fun e he hb=>?_,fun j hj=>?_⟩
 ·have h7:=Array.all_eq_true_iff_forall_mem.1 h5 e he
  rw [hb] at h7
  simpa using h7
 ·have h7:=List.all_eq_true.1 h6 j (Bp4.2 hj)
  exact of_decide_eq_true h7
theorem Ff {id:Nat} {l:List Oper} (R:Nat->Value->List Nat->(Nat->Value)->World->Prop) (hm:P.follows .mixedOrders=true) (hB:Pt l a.tmps.size=true)
  (hmono:∀i v g vs w w',Below w.heap.size w w'->R i v g vs w->R i v g vs w')
  (hloc:∀i v g vs vs' w,(∀j,Bx l i j=true->vs' j=vs j)->R i v g vs w->R i v g vs' w)
  (hop:Bs (fun i o=>∀(vs:Nat->Value) w',Below w.heap.size w w'->(∀j,Bx l i j=true->∃g,R j (vs j) g vs w')->
   ∀K:Act->World->Prop,(∀v g w'',Below w'.heap.size w' w''->R i v g vs w''->(∀k∈g,w'.heap.size<=k/\k<w''.heap.size)->K ((Al a (Ae l) vs l.length).put o.dst v) w'')->o.wp P (Al a (Ae l) vs l.length) w' K Q) 0 l)
  (hend:∀(vs:Nat->Value) (gs:Nat->List Nat) w',Below w.heap.size w w'->(∀i,i<l.length->R i (vs i) (gs i) vs w')->(∀i k,i<l.length->k∈gs i->w.heap.size<=k/\k<w'.heap.size)->(∀i j k,i<l.length->j<l.length->i≠j->k∈gs i->k∉gs j)->Q .normal (Al a (Ae l) vs l.length) w'):(Code.region id l.toArray true).wp P Q a w:=by
 have hg:=fun i (hi:i<l.length)=>Bg hB (Bm5 hi);have hds:∀i o,l[i]? =some o->o.dst=some (Ae l i):=fun i o hi=>by
  have h:=(Bg hB hi).1;obtain ⟨d,hd⟩:=Option.isSome_iff_exists.1 h;unfold Ae;rw [hi];simp [hd]
 have hdep:∀i o,l[i]? =some o->∀j,Bx l i j=true->∃e∈o.after,Region.binds .any e=true/\e.on=j:=fun i o hi j h=>by
  unfold Bx at h;simp only [hi] at h;obtain ⟨e,he,h2⟩:=List.any_eq_true.1 h;simp only [Bool.and_eq_true,beq_iff_eq] at h2;exact ⟨e,Array.mem_toList_iff.1 he,h2⟩
 refine Qt (Ae l) R hm (fun i hi=>(hg i hi).2.2.1) (fun i o hi=>⟨hds i o hi,by have:=(Bg hB hi).2.1;simpa using this⟩) ?_ (fun i o hi=>(Bg hB hi).2.2.2.1) hmono ?_ ?_ hend
 ·intro i j hi hj e
  rcases Nat.lt_trichotomy i j with h|h|h
  ·exact absurd e ((hg j hj).2.2.2.2 i h)
  ·exact h
  ·exact absurd e.symm ((hg i hi).2.2.2.2 j h)
 ·intro i o hi v g vs vs' w1 h hr
  refine hloc i v g vs vs' w1 (fun j hj=>?_) hr;obtain ⟨e,he,hb,rfl⟩:=hdep i o hi j hj;exact h e he hb
 ·intro i o hi vs w' hb hR K hK
  have h:=Dp l 0 hop i o hi;rw [Nat.zero_add] at h;refine h vs w' hb (fun j hj=>?_) K (fun v g w'' h1 h2 h3=>?_)
  ·obtain ⟨e,he,hb,rfl⟩:=hdep i o hi j hj
   exact hR e he hb
  ·rw [hds i o hi]
   exact hK v g w'' h1 h2 h3
end
end
section
namespace Hp
abbrev IK:=Int×Int
def Bf (a b:IK):Bool:=decide (a.2<b.2)||(decide (a.2=b.2)&&decide (a.1<b.1))
theorem Kj {a b:IK}:Bf a b=true↔a.2<b.2\/(a.2=b.2/\a.1<b.1):=by simp [Bf]
theorem Bt {a b:IK}:Bf a b=false↔b.2<a.2\/(b.2=a.2/\b.1<=a.1):=by
 rw [<-Bool.not_eq_true,Kj];omega
def gI (l:List IK) (j:Nat):IK:=l.getD j (0,0)
theorem Jv {l:List IK} {j:Nat} (h:j<l.length):gI l j=l[j]:=by simp [gI,h]
theorem Aw {l:List IK} {i j:Nat} {y:IK} (hi:i<l.length):gI (l.set i y) j=if j=i then y else gI l j:=by
 unfold gI;rw [Bm6,List.getElem?_set,Bm6]
 by_cases e:i=j
 ·subst e;simp [hi]
 ·rw [if_neg e,if_neg (fun h=>e h.symm)]
theorem Om {l:List IK} {j:Nat} (h:j<l.length):gI l j∈l:=by rw [Jv h];exact Bn2 h
def gP (p:List Int) (v:Nat):Int:=p.getD v (-1)
theorem Ec {p:List Int} {i j:Nat} {y:Int} (hi:i<p.length):gP (p.set i y) j=if j=i then y else gP p j:=by
 unfold gP;rw [Bm6,List.getElem?_set,Bm6]
 by_cases e:i=j
 ·subst e;simp [hi]
 ·rw [if_neg e,if_neg (fun h=>e h.symm)]
def Cy (l:List IK) (p:List Int) (i:Nat) (x:IK):List IK×List Int:=
 if _h:0<i/\Bf x (gI l ((i-1) / 2))=true then
  Cy (l.set i (gI l ((i-1) / 2))) (p.set (gI l ((i-1) / 2)).1.toNat (i:Int)) ((i-1) / 2) x
 else (l.set i x,p.set x.1.toNat (i:Int))
termination_by i
decreasing_by omega
theorem Xr {l:List IK} {p:List Int} {i:Nat} {x:IK} (h0:0<i) (h:Bf x (gI l ((i-1) / 2))=true):
  Cy l p i x=Cy (l.set i (gI l ((i-1) / 2))) (p.set (gI l ((i-1) / 2)).1.toNat (i:Int)) ((i-1) / 2) x:=by
 rw [Cy,dif_pos ⟨h0,h⟩]
theorem Oc {l:List IK} {p:List Int} {i:Nat} {x:IK} (h:i=0\/Bf x (gI l ((i-1) / 2))=false):Cy l p i x=(l.set i x,p.set x.1.toNat (i:Int)):=by
 rw [Cy,dif_neg];rintro ⟨a,b⟩
 rcases h with h|h
 ·omega
 ·rw [h] at b;cases b
def Bb (l:List IK) (i:Nat):Nat:=if 2*i+1+1<l.length/\Bf (gI l (2*i+1+1)) (gI l (2*i+1))=true then 2*i+1+1 else 2*i+1
theorem Ai9 (l:List IK) (i:Nat):2*i+1<=Bb l i/\Bb l i<=2*i+2:=by unfold Bb;split<;>omega
def Bm (l:List IK) (p:List Int) (i:Nat) (x:IK):List IK×List Int:=
 if h:Bb l i<l.length/\Bf (gI l (Bb l i)) x=true then
  Bm (l.set i (gI l (Bb l i))) (p.set (gI l (Bb l i)).1.toNat (i:Int)) (Bb l i) x
 else (l.set i x,p.set x.1.toNat (i:Int))
termination_by l.length-i
decreasing_by
 have:=(Ai9 l i).1;rw [Bn1];omega
theorem Mo {l:List IK} {p:List Int} {i:Nat} {x:IK} (h0:Bb l i<l.length) (h:Bf (gI l (Bb l i)) x=true):
  Bm l p i x=Bm (l.set i (gI l (Bb l i))) (p.set (gI l (Bb l i)).1.toNat (i:Int)) (Bb l i) x:=by
 rw [Bm,dif_pos ⟨h0,h⟩]
theorem Hg {l:List IK} {p:List Int} {i:Nat} {x:IK} (h:l.length<=Bb l i\/Bf (gI l (Bb l i)) x=false):Bm l p i x=(l.set i x,p.set x.1.toNat (i:Int)):=by
 rw [Bm,dif_neg];rintro ⟨a,b⟩
 rcases h with h|h
 ·omega
 ·rw [h] at b;cases b
structure Hole (l:List IK) (p:List Int) (i:Nat) (x:IK):Prop where
 hi:i<l.length
 hx:0<=x.1/\x.1.toNat<p.length
 pos:∀j,j<l.length->j≠i->0<=(gI l j).1/\(gI l j).1.toNat<p.length/\gP p (gI l j).1.toNat=(j:Int)/\(gI l j).1≠x.1
 inv:∀v,v<p.length->(v:Int)≠x.1->gP p v= -1\/∃j,j<l.length/\j≠i/\gP p v=(j:Int)/\(gI l j).1=(v:Int)
structure Cons (l:List IK) (p:List Int):Prop where
 pos:∀j,j<l.length->0<=(gI l j).1/\(gI l j).1.toNat<p.length/\gP p (gI l j).1.toNat=(j:Int)
 inv:∀v,v<p.length->gP p v= -1\/∃j,j<l.length/\gP p v=(j:Int)/\(gI l j).1=(v:Int)
def Xe (l:List IK) (i:Nat) (x y:IK):Prop:=y=x\/∃j,j<l.length/\j≠i/\gI l j=y
theorem Ea {l:List IK} {y:IK}:y∈l↔∃j,j<l.length/\gI l j=y:=by
 constructor
 ·intro h
  obtain ⟨j,hj,e⟩:=Bq4.1 h;exact ⟨j,hj,by rw [Jv hj];exact e⟩
 ·rintro ⟨j,hj,rfl⟩
  exact Om hj
theorem Hole.fill {l:List IK} {p:List Int} {i:Nat} {x:IK} (h:Hole l p i x):Cons (l.set i x) (p.set x.1.toNat (i:Int))/\∀y,y∈l.set i x↔Xe l i x y:=by
 refine ⟨⟨?_,?_⟩,?_⟩
 ·intro j hj
  rw [Bn1] at hj;rw [Aw h.hi,Bn1]
  by_cases e:j=i
  ·subst e
   rw [if_pos rfl];refine ⟨h.hx.1,h.hx.2,?_⟩;rw [Ec h.hx.2,if_pos rfl]
  ·rw [if_neg e]
   obtain ⟨a,b,c,d⟩:=h.pos j hj e;refine ⟨a,b,?_⟩;rw [Ec h.hx.2,if_neg]
   ·exact c
   ·have:=h.hx.1
    omega
 ·intro v hv
  rw [Bn1] at hv;rw [Ec h.hx.2]
  by_cases e:v=x.1.toNat
  ·rw [if_pos e]
   refine .inr ⟨i,by rw [Bn1];exact h.hi,rfl,?_⟩;rw [Aw h.hi,if_pos rfl];have:=h.hx.1;omega
  ·rw [if_neg e]
   rcases h.inv v hv (by have:=h.hx.1;omega) with h1|⟨j,a,b,c,d⟩
   ·exact .inl h1
   ·exact .inr ⟨j,by rw [Bn1];exact a,c,by rw [Aw h.hi,if_neg b];exact d⟩
 ·intro y
  rw [Ea];constructor
  ·rintro ⟨j,hj,e⟩
   rw [Bn1] at hj;rw [Aw h.hi] at e
   by_cases e2:j=i
   ·rw [if_pos e2] at e
    exact .inl e.symm
   ·rw [if_neg e2] at e
    exact .inr ⟨j,hj,e2,e⟩
  ·rintro (rfl|⟨j,hj,e2,e⟩)
   ·exact ⟨i,by rw [Bn1];exact h.hi,by rw [Aw h.hi,if_pos rfl]⟩
   ·exact ⟨j,by rw [Bn1];exact hj,by rw [Aw h.hi,if_neg e2];exact e⟩
theorem Hole.move {l:List IK} {p:List Int} {i k:Nat} {x:IK} (h:Hole l p i x) (hk:k<l.length) (hne:k≠i):
  Hole (l.set i (gI l k)) (p.set (gI l k).1.toNat (i:Int)) k x/\∀y,Xe (l.set i (gI l k)) k x y↔Xe l i x y:=by
 obtain ⟨ka,kb,kc,kd⟩:=h.pos k hk hne;refine ⟨⟨by rw [Bn1];exact hk,by rw [Bn1];exact h.hx,?_,?_⟩,?_⟩
 ·intro j hj hjk
  rw [Bn1] at hj;rw [Aw h.hi,Bn1]
  by_cases e:j=i
  ·rw [if_pos e]
   exact ⟨ka,kb,by rw [Ec kb,if_pos rfl,e],kd⟩
  ·rw [if_neg e]
   obtain ⟨a,b,c,d⟩:=h.pos j hj e;refine ⟨a,b,?_,d⟩;rw [Ec kb,if_neg]
   ·exact c
   ·intro e2
    rw [e2,kc] at c;omega
 ·intro v hv hvx
  rw [Bn1] at hv;rw [Ec kb]
  by_cases e:v=(gI l k).1.toNat
  ·rw [if_pos e]
   refine .inr ⟨i,by rw [Bn1];exact h.hi,fun e=>hne e.symm,rfl,?_⟩;rw [Aw h.hi,if_pos rfl];omega
  ·rw [if_neg e]
   rcases h.inv v hv hvx with h1|⟨j,a,b,c,d⟩
   ·exact .inl h1
   ·refine .inr ⟨j,by rw [Bn1];exact a,?_,c,by rw [Aw h.hi,if_neg b];exact d⟩
    rintro rfl;omega
 ·intro y
  unfold Xe;rw [Bn1];constructor
  ·rintro (e|⟨j,hj,e2,e⟩)
   ·exact .inl e
   ·rw [Aw h.hi] at e
    by_cases e3:j=i
    ·rw [if_pos e3] at e
     exact .inr ⟨k,hk,hne,e⟩
    ·rw [if_neg e3] at e
     exact .inr ⟨j,hj,e3,e⟩
  ·rintro (e|⟨j,hj,e2,e⟩)
   ·exact .inl e
   ·by_cases e3:j=k
    ·subst e3
     exact .inr ⟨i,h.hi,fun e=>hne e.symm,by rw [Aw h.hi,if_pos rfl];exact e⟩
    ·exact .inr ⟨j,hj,e3,by rw [Aw h.hi,if_neg e2];exact e⟩
def OrdI (l:List IK):Prop:=∀j,j<l.length->0<j->Bf (gI l j) (gI l ((j-1) / 2))=false
structure OrdH (l:List IK) (i:Nat):Prop where
 a:∀j,j<l.length->0<j->j≠i->(j-1) / 2≠i->Bf (gI l j) (gI l ((j-1) / 2))=false
 c:0<i->∀j,j<l.length->0<j->(j-1) / 2=i->Bf (gI l j) (gI l ((i-1) / 2))=false
def Aa1 (l:List IK) (i:Nat) (x:IK):Prop:=∀j,j<l.length->0<j->(j-1) / 2=i->Bf (gI l j) x=false
def UpH (l:List IK) (i:Nat) (x:IK):Prop:=0<i->Bf x (gI l ((i-1) / 2))=false
theorem OrdH.fill {l:List IK} {i:Nat} {x:IK} (hi:i<l.length) (h:OrdH l i) (hl:Aa1 l i x) (hu:UpH l i x):OrdI (l.set i x):=by
 intro j hj h0;rw [Bn1] at hj;rw [Aw hi,Aw hi]
 by_cases e:j=i
 ·subst e
  rw [if_pos rfl,if_neg (by omega)];exact hu h0
 ·rw [if_neg e]
  by_cases e2:(j-1) / 2=i
  ·rw [if_pos e2]
   exact hl j hj h0 e2
  ·rw [if_neg e2]
   exact h.a j hj h0 e e2
theorem Ob:∀(i:Nat) (l:List IK) (p:List Int) (x:IK),Hole l p i x->OrdH l i->Aa1 l i x->
  Cons (Cy l p i x).1 (Cy l p i x).2/\OrdI (Cy l p i x).1/\(∀y,y∈(Cy l p i x).1↔Xe l i x y)/\(Cy l p i x).1.length=l.length/\(Cy l p i x).2.length=p.length:=by
 intro i
 induction i using Nat.strongRecOn with
 |_ i ih=>
  intro l p x h ho hl
  by_cases hs:0<i/\Bf x (gI l ((i-1) / 2))=true
  ·obtain ⟨h0,hs⟩:=hs
   have hu:(i-1) / 2<i:=by omega
   have hk:(i-1) / 2<l.length:=by have:=h.hi;omega
   obtain ⟨m1,m2⟩:=h.move hk (by omega);have hsi:=Kj.1 hs;have o1:OrdH (l.set i (gI l ((i-1) / 2))) ((i-1) / 2):=by
    refine ⟨?_,?_⟩
    ·intro j hj hj0 e1 e2
     rw [Bn1] at hj;rw [Aw h.hi,Aw h.hi]
     by_cases e:j=i
     ·subst e
      exact absurd rfl e2
     ·rw [if_neg e]
      by_cases e3:(j-1) / 2=i
      ·rw [if_pos e3]
       exact ho.c h0 j hj hj0 e3
      ·rw [if_neg e3]
       exact ho.a j hj hj0 e e3
    ·intro hu0 j hj hj0 e2
     rw [Bn1] at hj;rw [Aw h.hi,Aw h.hi,if_neg (show ((i-1) / 2-1) / 2≠i by omega)];have h1:=ho.a ((i-1) / 2) hk hu0 (by omega) (by omega)
     by_cases e:j=i
     ·rw [if_pos e]
      exact h1
     ·rw [if_neg e]
      have h2:=ho.a j hj hj0 e (by omega);rw [e2] at h2;rw [Bt] at h1 h2 ⊢;omega
   have l1:Aa1 (l.set i (gI l ((i-1) / 2))) ((i-1) / 2) x:=by
    intro j hj hj0 e2;rw [Bn1] at hj;rw [Aw h.hi]
    by_cases e:j=i
    ·rw [if_pos e,Bt]
     omega
    ·rw [if_neg e]
     have h2:=ho.a j hj hj0 e (by omega);rw [e2] at h2;rw [Bt] at h2 ⊢;omega
   obtain ⟨r1,r2,r3,r4,r5⟩:=ih _ hu _ _ x m1 o1 l1;rw [Xr h0 hs];exact ⟨r1,r2,fun y=>(r3 y).trans (m2 y),by rw [r4,Bn1],by rw [r5,Bn1]⟩
  ·have he:i=0\/Bf x (gI l ((i-1) / 2))=false:=by
    by_cases h0:i=0
    ·exact .inl h0
    ·refine .inr ?_
     rw [<-Bool.not_eq_true];exact fun h=>hs ⟨by omega,h⟩
   rw [Oc he];obtain ⟨f1,f2⟩:=h.fill;refine ⟨f1,ho.fill h.hi hl ?_,f2,by rw [Bn1],by rw [Bn1]⟩;intro h0
   rcases he with he|he
   ·omega
   ·exact he
theorem Us {l:List IK} {i:Nat} (j:Nat) (hj:j<l.length) (hj0:0<j) (e:(j-1) / 2=i):Bb l i<l.length/\Bf (gI l j) (gI l (Bb l i))=false:=by
 have hc:j=2*i+1\/j=2*i+1+1:=by omega
 unfold Bb
 split
 ·rename_i h
  refine ⟨h.1,?_⟩;have h2:=Kj.1 h.2
  rcases hc with rfl|rfl<;>rw [Bt]<;>omega
 ·rename_i h
  refine ⟨by omega,?_⟩
  rcases hc with rfl|rfl
  ·rw [Bt];omega
  ·rw [<-Bool.not_eq_true]
   exact fun h2=>h ⟨hj,h2⟩
theorem Tz:∀(n:Nat) (l:List IK) (p:List Int) (i:Nat) (x:IK),l.length-i=n->Hole l p i x->OrdH l i->
  (Cons (Bm l p i x).1 (Bm l p i x).2/\(∀y,y∈(Bm l p i x).1↔Xe l i x y)/\(Bm l p i x).1.length=l.length/\(Bm l p i x).2.length=p.length)/\
  ((Bm l p i x=(l.set i x,p.set x.1.toNat (i:Int))/\Aa1 l i x)\/(OrdI (Bm l p i x).1/\∃k,i<k/\gP (Bm l p i x).2 x.1.toNat=(k:Int)))/\
  (UpH l i x->OrdI (Bm l p i x).1)/\∃k,i<=k/\gP (Bm l p i x).2 x.1.toNat=(k:Int):=by
 intro n
 induction n using Nat.strongRecOn with
 |_ n ih=>
  intro l p i x hn h ho
  by_cases hs:Bb l i<l.length/\Bf (gI l (Bb l i)) x=true
  ·obtain ⟨h0,hs⟩:=hs
   have hb:=Ai9 l i;obtain ⟨m1,m2⟩:=h.move h0 (by omega);have hsi:=Kj.1 hs;have hpar:(Bb l i-1) / 2=i:=by omega
   have o1:OrdH (l.set i (gI l (Bb l i))) (Bb l i):=by
    refine ⟨?_,?_⟩
    ·intro j hj hj0 e1 e2
     rw [Bn1] at hj;rw [Aw h.hi,Aw h.hi]
     by_cases e:j=i
     ·subst e
      rw [if_pos rfl,if_neg (by omega)];exact ho.c hj0 _ h0 (by omega) hpar
     ·rw [if_neg e]
      by_cases e3:(j-1) / 2=i
      ·rw [if_pos e3]
       exact (Us j hj hj0 e3).2
      ·rw [if_neg e3]
       exact ho.a j hj hj0 e e3
    ·intro hu0 j hj hj0 e2
     rw [Bn1] at hj;rw [Aw h.hi,Aw h.hi,if_neg (by omega),hpar,if_pos rfl];have:=ho.a j hj hj0 (by omega) (by omega);rw [e2] at this;exact this
   have u1:UpH (l.set i (gI l (Bb l i))) (Bb l i) x:=by
    intro _;rw [Aw h.hi,hpar,if_pos rfl,Bt];omega
   obtain ⟨⟨r1,r2,r3,r4⟩,-,r6,k,r7,r8⟩:=ih _ (by rw [Bn1];have:=h.hi;omega) _ _ (Bb l i) x rfl m1 o1;rw [Mo h0 hs];have r6:=r6 u1;exact ⟨⟨r1,fun y=>(r2 y).trans (m2 y),by rw [r3,Bn1],by rw [r4,Bn1]⟩,.inr ⟨r6,k,by omega,r8⟩,fun _=>r6,k,by omega,r8⟩
  ·have he:l.length<=Bb l i\/Bf (gI l (Bb l i)) x=false:=by
    by_cases h0:l.length<=Bb l i
    ·exact .inl h0
    ·refine .inr ?_
     rw [<-Bool.not_eq_true];exact fun h=>hs ⟨by omega,h⟩
   rw [Hg he];obtain ⟨f1,f2⟩:=h.fill;have hl:Aa1 l i x:=by
    intro j hj hj0 e;obtain ⟨c1,c2⟩:=Us j hj hj0 e
    rcases he with he|he
    ·omega
    ·rw [Bt] at c2 he ⊢
     omega
   refine ⟨⟨f1,f2,by rw [Bn1],by rw [Bn1]⟩,.inl ⟨rfl,hl⟩,fun hu=>ho.fill h.hi hl hu,i,Bm2 _,?_⟩
   show gP (p.set x.1.toNat (i:Int)) x.1.toNat=_
   rw [Ec h.hx.2,if_pos rfl]
structure HeapOK (l:List IK) (p:List Int):Prop where
 c:Cons l p
 o:OrdI l
theorem Cons.hole {l:List IK} {p:List Int} (h:Cons l p) {i:Nat} (hi:i<l.length) {x:IK} (hx:x.1=(gI l i).1):Hole l p i x:=by
 obtain ⟨a,b,c⟩:=h.pos i hi;refine ⟨hi,by rw [hx];exact ⟨a,b⟩,?_,?_⟩
 ·intro j hj hne
  obtain ⟨a',b',c'⟩:=h.pos j hj;refine ⟨a',b',c',?_⟩;intro e;rw [e,hx,c] at c';omega
 ·intro v hv hne
  rcases h.inv v hv with h1|⟨j,j1,j2,j3⟩
  ·exact .inl h1
  ·refine .inr ⟨j,j1,?_,j2,j3⟩
   rintro rfl;rw [hx,j3] at hne;exact hne rfl
theorem OrdI.hole {l:List IK} (h:OrdI l) (i:Nat):OrdH l i:=by
 refine ⟨fun j hj h0 _ _=>h j hj h0,?_⟩;intro hi j hj h0 e;have h1:=h j hj h0;rw [e] at h1;have h2:=h i (by omega) hi;rw [Bt] at h1 h2 ⊢;omega
theorem Cons.inj {l:List IK} {p:List Int} (h:Cons l p) {i j:Nat} (hi:i<l.length) (hj:j<l.length) (e:(gI l i).1=(gI l j).1):i=j:=by
 have h1:=(h.pos i hi).2.2;have h2:=(h.pos j hj).2.2;rw [e,h2] at h1;omega
theorem Cons.key {l:List IK} {p:List Int} (h:Cons l p) {v k k':Int} (h1:(v,k)∈l) (h2:(v,k')∈l):k=k':=by
 obtain ⟨i,hi,ei⟩:=Ea.1 h1;obtain ⟨j,hj,ej⟩:=Ea.1 h2;obtain rfl:=h.inj hi hj (by rw [ei,ej]);rw [ei] at ej;exact (Prod.mk.inj ej).2
theorem Cons.place {l:List IK} {p:List Int} (h:Cons l p) {v:Nat} (hv:v<p.length):(gP p v= -1/\∀k,((v:Int),k)∉l)\/∃i,i<l.length/\gP p v=(i:Int)/\(gI l i).1=(v:Int):=by
 rcases h.inv v hv with h1|h1
 ·refine .inl ⟨h1,?_⟩
  intro k hk;obtain ⟨i,hi,ei⟩:=Ea.1 hk;have:=(h.pos i hi).2.2;rw [ei] at this;simp at this;omega
 ·exact .inr h1
def Bi (l:List IK) (p:List Int) (v:Nat) (key:Int):Bool×List IK×List Int:=
 if gP p v= -1 then (true,Cy (l++[((v:Int),key)]) p l.length ((v:Int),key))
 else if (gI l (gP p v).toNat).2<=key then (false,l,p)
 else (true,Cy l p (gP p v).toNat ((v:Int),key))
theorem Bo {l:List IK} {j:Nat} (h:j<l.length) (r:List IK):gI (l++r) j=gI l j:=by
 unfold gI;rw [Bm6,Bm6,Bp9 h]
theorem Dz {l:List IK} {p:List Int} (h:HeapOK l p) {v:Nat} (hv:v<p.length) (key:Int):
  HeapOK (Bi l p v key).2.1 (Bi l p v key).2.2/\(Bi l p v key).2.2.length=p.length/\
  ((Bi l p v key).1=true->∀y,y∈(Bi l p v key).2.1↔(y=((v:Int),key)\/(y∈l/\y.1≠(v:Int))))/\
  ((Bi l p v key).1=false->(Bi l p v key).2.1=l/\∃k,((v:Int),k)∈l/\k<=key)/\(Bi l p v key).2.1.length<=l.length+1:=by
 unfold Bi
 rcases h.c.place hv with ⟨h1,h2⟩|⟨i,hi,h1,h2⟩
 ·rw [if_pos h1]
  have hh:Hole (l++[((v:Int),key)]) p l.length ((v:Int),key):=by
   refine ⟨by simp,⟨by simp,by simpa using hv⟩,?_,?_⟩
   ·intro j hj hne
    have hj2:j<l.length:=by simp at hj;omega
    rw [Bo hj2];obtain ⟨a,b,c⟩:=h.c.pos j hj2;refine ⟨a,b,c,?_⟩;intro e
    apply h2 (gI l j).2
    have:((v:Int),(gI l j).2)=gI l j:=Prod.ext e.symm rfl;rw [this];exact Om hj2
   ·intro u hu hne
    rcases h.c.inv u hu with h3|⟨j,j1,j2,j3⟩
    ·exact .inl h3
    ·exact .inr ⟨j,by simp;omega,by omega,j2,by rw [Bo j1];exact j3⟩
  have ho:OrdH (l++[((v:Int),key)]) l.length:=by
   refine ⟨?_,?_⟩
   ·intro j hj h0 e1 e2
    have hj2:j<l.length:=by simp at hj;omega
    rw [Bo hj2,Bo (by omega)];exact h.o j hj2 h0
   ·intro h0 j hj hj0 e
    simp at hj;omega
  have hl:Aa1 (l++[((v:Int),key)]) l.length ((v:Int),key):=by
   intro j hj hj0 e;simp at hj;omega
  obtain ⟨r1,r2,r3,r4,r5⟩:=Ob _ _ p _ hh ho hl;refine ⟨⟨r1,r2⟩,r5,?_,fun e=>(by cases e),by rw [r4];simp⟩;intro _ y
  show y∈(Cy _ _ _ _).1↔_
  rw [r3];constructor
  ·rintro (e|⟨j,hj,hne,e⟩)
   ·exact .inl e
   ·have hj2:j<l.length:=by simp at hj;omega
    rw [Bo hj2] at e;refine .inr ⟨e▸Om hj2,?_⟩;intro e2
    apply h2 y.2
    have:((v:Int),y.2)=y:=Prod.ext e2.symm rfl;rw [this,<-e];exact Om hj2
  ·rintro (e|⟨hm,hne⟩)
   ·exact .inl e
   ·obtain ⟨j,hj,e⟩:=Ea.1 hm
    exact .inr ⟨j,by simp;omega,by omega,by rw [Bo hj];exact e⟩
 ·rw [if_neg (by omega),h1]
  have hin:(i:Int).toNat=i:=by omega
  rw [hin]
  split
  ·rename_i hk
   refine ⟨h,rfl,fun e=>(by cases e),fun _=>⟨rfl,(gI l i).2,?_,hk⟩,by simp⟩;have:((v:Int),(gI l i).2)=gI l i:=Prod.ext h2.symm rfl;rw [this];exact Om hi
  ·rename_i hk
   have hh:Hole l p i ((v:Int),key):=h.c.hole hi h2.symm;have hl:Aa1 l i ((v:Int),key):=by
    intro j hj hj0 e;have:=h.o j hj hj0;rw [e] at this;rw [Bt] at this ⊢;simp only;omega
   obtain ⟨r1,r2,r3,r4,r5⟩:=Ob _ _ p _ hh (h.o.hole i) hl;refine ⟨⟨r1,r2⟩,r5,?_,fun e=>(by cases e),by rw [r4];simp⟩;intro _ y
   show y∈(Cy _ _ _ _).1↔_
   rw [r3];constructor
   ·rintro (e|⟨j,hj,hne,e⟩)
    ·exact .inl e
    ·refine .inr ⟨e▸Om hj,?_⟩
     rw [<-e];exact (hh.pos j hj hne).2.2.2
   ·rintro (e|⟨hm,hne⟩)
    ·exact .inl e
    ·obtain ⟨j,hj,e⟩:=Ea.1 hm
     refine .inr ⟨j,hj,?_,e⟩;rintro rfl;rw [<-e] at hne;exact hne h2
def Ba (l:List IK) (p:List Int) (v i:Nat):List IK×List Int:=
 if i=l.length-1 then (l.take (l.length-1),p.set v (-1))
 else if gP (Bm (l.take (l.length-1)) (p.set v (-1)) i (gI l (l.length-1))).2 (gI l (l.length-1)).1.toNat=(i:Int) then
  Cy (Bm (l.take (l.length-1)) (p.set v (-1)) i (gI l (l.length-1))).1 (Bm (l.take (l.length-1)) (p.set v (-1)) i (gI l (l.length-1))).2 i (gI l (l.length-1))
 else Bm (l.take (l.length-1)) (p.set v (-1)) i (gI l (l.length-1))
theorem Cl {l:List IK} {j n:Nat} (h:j<n):gI (l.take n) j=gI l j:=by
 unfold gI;rw [Bm6,Bm6,List.getElem?_take,if_pos h]
theorem Ar2 {l:List IK} {p:List Int} (h:HeapOK l p) {v i:Nat} (hv:v<p.length) (hi:i<l.length) (hp:gP p v=(i:Int)) (hg:(gI l i).1=(v:Int)) (hl:¬i=l.length-1):
  Hole (l.take (l.length-1)) (p.set v (-1)) i (gI l (l.length-1)):=by
 have hlt:(l.take (l.length-1)).length=l.length-1:=by simp
 have hv0:∀j,j<l.length->j≠i->(gI l j).1≠(v:Int):=fun j hj hne e=>hne (h.c.inj hj hi (by rw [e,hg]));have hi2:i<l.length-1:=by omega
 obtain ⟨xa,xb,xc⟩:=h.c.pos (l.length-1) (by omega);refine ⟨by rw [hlt];exact hi2,by rw [Bn1];exact ⟨xa,xb⟩,?_,?_⟩
 ·intro j hj hne
  rw [hlt] at hj;rw [Cl hj,Bn1];obtain ⟨a,b,c⟩:=h.c.pos j (by omega);refine ⟨a,b,?_,?_⟩
  ·rw [Ec hv,if_neg]
   ·exact c
   ·have:=hv0 j (by omega) hne
    omega
  ·intro e
   have:=h.c.inj (i:=j) (j:=l.length-1) (by omega) (by omega) e;omega
 ·intro u hu hne
  rw [Bn1] at hu;rw [Ec hv]
  by_cases e:u=v
  ·rw [if_pos e]
   exact .inl rfl
  ·rw [if_neg e]
   rcases h.c.inv u hu with h1|⟨j,j1,j2,j3⟩
   ·exact .inl h1
   ·have hne2:j≠i:=by
     rintro rfl;omega
    have hne3:j≠l.length-1:=by
     rintro rfl;exact hne j3.symm
    exact .inr ⟨j,by rw [hlt];omega,hne2,j2,by rw [Cl (by omega)];exact j3⟩
theorem Ks {l:List IK} {p:List Int} (h:HeapOK l p) {v i:Nat} (hv:v<p.length) (hi:i<l.length) (hp:gP p v=(i:Int)) (hg:(gI l i).1=(v:Int)):
  HeapOK (Ba l p v i).1 (Ba l p v i).2/\(Ba l p v i).2.length=p.length/\(Ba l p v i).1.length=l.length-1/\∀y,y∈(Ba l p v i).1↔y∈l/\y.1≠(v:Int):=by
 have hlt:(l.take (l.length-1)).length=l.length-1:=by simp
 have hord:∀j,j<l.length-1->0<j->Bf (gI (l.take (l.length-1)) j) (gI (l.take (l.length-1)) ((j-1) / 2))=false:=by
  intro j hj h0;rw [Cl hj,Cl (by omega)];exact h.o j (by omega) h0
 have hv0:∀j,j<l.length->j≠i->(gI l j).1≠(v:Int):=fun j hj hne e=>hne (h.c.inj hj hi (by rw [e,hg]));unfold Ba
 by_cases hl:i=l.length-1
 ·rw [if_pos hl]
  refine ⟨⟨⟨?_,?_⟩,?_⟩,by simp,hlt,?_⟩
  ·intro j hj
   have hj:j<l.length-1:=by rw [<-hlt];exact hj
   show 0<=(gI (l.take (l.length-1)) j).1/\_
   rw [Cl hj,Bn1];obtain ⟨a,b,c⟩:=h.c.pos j (by omega);refine ⟨a,b,?_⟩;rw [Ec hv,if_neg]
   ·exact c
   ·have:=hv0 j (by omega) (by omega)
    omega
  ·intro u hu
   rw [Bn1] at hu;rw [Ec hv]
   by_cases e:u=v
   ·rw [if_pos e]
    exact .inl rfl
   ·rw [if_neg e]
    rcases h.c.inv u hu with h1|⟨j,j1,j2,j3⟩
    ·exact .inl h1
    ·have hne:j≠i:=by
      rintro rfl;omega
     refine .inr ⟨j,by show j<(l.take (l.length-1)).length;rw [hlt];omega,j2,?_⟩
     show (gI (l.take (l.length-1)) j).1=_
     rw [Cl (by omega)];exact j3
  ·intro j hj h0
   exact hord j (by rw [<-hlt];exact hj) h0
  ·intro y
   show y∈l.take (l.length-1)↔_
   rw [Ea,Ea,hlt];constructor
   ·rintro ⟨j,hj,e⟩
    rw [Cl hj] at e;exact ⟨⟨j,by omega,e⟩,by rw [<-e];exact hv0 j (by omega) (by omega)⟩
   ·rintro ⟨⟨j,hj,e⟩,hne⟩
    have:j≠i:=by
     rintro rfl;rw [<-e] at hne;exact hne hg
    exact ⟨j,by omega,by rw [Cl (by omega)];exact e⟩
 ·rw [if_neg hl]
  have hi2:i<l.length-1:=by omega
  obtain ⟨xa,xb,xc⟩:=h.c.pos (l.length-1) (by omega);have hxv:=hv0 (l.length-1) (by omega) (by omega);have hh:Hole (l.take (l.length-1)) (p.set v (-1)) i (gI l (l.length-1)):=by
   refine ⟨by rw [hlt];exact hi2,by rw [Bn1];exact ⟨xa,xb⟩,?_,?_⟩
   ·intro j hj hne
    rw [hlt] at hj;rw [Cl hj,Bn1];obtain ⟨a,b,c⟩:=h.c.pos j (by omega);refine ⟨a,b,?_,?_⟩
    ·rw [Ec hv,if_neg]
     ·exact c
     ·have:=hv0 j (by omega) hne
      omega
    ·intro e
     have:=h.c.inj (i:=j) (j:=l.length-1) (by omega) (by omega) e;omega
   ·intro u hu hne
    rw [Bn1] at hu;rw [Ec hv]
    by_cases e:u=v
    ·rw [if_pos e]
     exact .inl rfl
    ·rw [if_neg e]
     rcases h.c.inv u hu with h1|⟨j,j1,j2,j3⟩
     ·exact .inl h1
     ·have hne2:j≠i:=by
       rintro rfl;omega
      have hne3:j≠l.length-1:=by
       rintro rfl;exact hne j3.symm
      exact .inr ⟨j,by rw [hlt];omega,hne2,j2,by rw [Cl (by omega)];exact j3⟩
  have hoI:OrdI (l.take (l.length-1)):=fun j hj h0=>hord j (by rw [<-hlt];exact hj) h0;have hmem:∀y,Xe (l.take (l.length-1)) i (gI l (l.length-1)) y↔y∈l/\y.1≠(v:Int):=by
   intro y;unfold Xe;rw [Ea,hlt];constructor
   ·rintro (e|⟨j,hj,hne,e⟩)
    ·exact ⟨⟨_,by omega,e.symm⟩,by rw [e];exact hxv⟩
    ·rw [Cl hj] at e
     exact ⟨⟨j,by omega,e⟩,by rw [<-e];exact hv0 j (by omega) hne⟩
   ·rintro ⟨⟨j,hj,e⟩,hne⟩
    have hji:j≠i:=by
     rintro rfl;rw [<-e] at hne;exact hne hg
    by_cases e2:j=l.length-1
    ·subst e2
     exact .inl e.symm
    ·exact .inr ⟨j,by omega,hji,by rw [Cl (by omega)];exact e⟩
  obtain ⟨⟨r1,r2,r3,r4⟩,r5,-,-⟩:=Tz _ _ _ i (gI l (l.length-1)) rfl hh (hoI.hole i)
  rcases r5 with ⟨e,hlow⟩|⟨ho,k,hk,hp2⟩
  ·have hset:gP (p.set v (-1) |>.set (gI l (l.length-1)).1.toNat (i:Int)) (gI l (l.length-1)).1.toNat=(i:Int):=by
    rw [Ec hh.hx.2,if_pos rfl]
   have hc:=r1;rw [e] at hc r2 r3 r4;rw [e]
   show HeapOK (if gP (p.set v (-1) |>.set _ _) _=_ then _ else _:List IK×List Int).1 _/\_
   rw [if_pos hset];have hgi:gI ((l.take (l.length-1)).set i (gI l (l.length-1))) i=gI l (l.length-1):=by rw [Aw hh.hi,if_pos rfl]
   have hh2:Hole ((l.take (l.length-1)).set i (gI l (l.length-1))) (p.set v (-1) |>.set (gI l (l.length-1)).1.toNat (i:Int)) i (gI l (l.length-1)):=hc.hole (by rw [Bn1];exact hh.hi) (by rw [hgi]);have ho2:OrdH ((l.take (l.length-1)).set i (gI l (l.length-1))) i:=by
    have hH:=hoI.hole i;refine ⟨?_,?_⟩
    ·intro j hj h0 e1 e2
     rw [Bn1] at hj;rw [Aw hh.hi,Aw hh.hi,if_neg e1,if_neg e2];exact hH.a j hj h0 e1 e2
    ·intro h0 j hj hj0 e2
     rw [Bn1] at hj;rw [Aw hh.hi,Aw hh.hi,if_neg (by omega),if_neg (by omega)];exact hH.c h0 j hj hj0 e2
   have hl2:Aa1 ((l.take (l.length-1)).set i (gI l (l.length-1))) i (gI l (l.length-1)):=by
    intro j hj hj0 e2;rw [Bn1] at hj;rw [Aw hh.hi,if_neg (by omega)];exact hlow j hj hj0 e2
   obtain ⟨s1,s2,s3,s4,s5⟩:=Ob _ _ _ _ hh2 ho2 hl2;refine ⟨⟨s1,s2⟩,?_,?_,?_⟩
   ·rw [s5];simp
   ·rw [s4];simp
   ·intro y
    refine (s3 y).trans (Iff.trans ?_ (hmem y));unfold Xe;rw [Bn1];constructor
    ·rintro (e3|⟨j,hj,hne,e3⟩)
     ·exact .inl e3
     ·rw [Aw hh.hi,if_neg hne] at e3
      exact .inr ⟨j,hj,hne,e3⟩
    ·rintro (e3|⟨j,hj,hne,e3⟩)
     ·exact .inl e3
     ·exact .inr ⟨j,hj,hne,by rw [Aw hh.hi,if_neg hne];exact e3⟩
  ·rw [if_neg (by rw [hp2];omega)]
   exact ⟨⟨r1,ho⟩,by rw [r4];simp,by rw [r3,hlt],fun y=>(r2 y).trans (hmem y)⟩
theorem OrdI.first {l:List IK} (h:OrdI l):∀j,j<l.length->Bf (gI l j) (gI l 0)=false:=by
 intro j
 induction j using Nat.strongRecOn with
 |_ j ih=>
  intro hj
  by_cases h0:j=0
  ·subst h0
   rw [Bt];omega
  ·have h1:=h j hj (by omega)
   have h2:=ih ((j-1) / 2) (by omega) (by omega);rw [Bt] at h1 h2 ⊢;omega
theorem HeapOK.least {l:List IK} {p:List Int} (h:HeapOK l p) {y:IK} (hy:y∈l):(gI l 0).2<=y.2:=by
 obtain ⟨j,hj,rfl⟩:=Ea.1 hy;have:=h.o.first j hj;rw [Bt] at this;omega
theorem Gi (n:Nat):HeapOK [] (List.replicate n (-1)):=by
 refine ⟨⟨fun j hj=>absurd hj (by simp),?_⟩,fun j hj=>absurd hj (by simp)⟩;intro v hv;refine .inl ?_;unfold gP;rw [Bm6,Bq0]
 split<;>rfl
end Hp
end
end Go.Proofs.YteaaapdjplbljaaGreat
