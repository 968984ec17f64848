/- A map from numbers to rows of entries, as it lies in memory (table's buckets): what a reading and a writing give. The search's reference in plain Lean: round by round over all edges; what it is, and what it says of peaks. Plain: what lies in table's buckets, what a row tells as it is pulled down, and what it tells at the end. -/
import Derived.Test.YteaaapdjplbljaaGreatProg
import Derived.Test.YteaaapdjplbljaaGreatLw11
import Derived.Test.YteaaapdjplbljaaGreatLw06
import Derived.Test.YteaaapdjplbljaaGreatLw14
import Derived.Test.YteaaapdjplbljaaGreatLw29
import Derived.Test.YteaaapdjplbljaaGreatLw33
set_option linter.unusedVariables false
set_option linter.unusedSimpArgs false
set_option linter.unnecessarySimpa false
section
namespace Go.Proofs.YteaaapdjplbljaaGreat
open Go Go.Proofs Go.RowKit Go.Shelf Go.Proofs.YteaaapdjplbljaaGreat.Hp Go.Proofs.YteaaapdjplbljaaGreat.Ch
theorem mv_under:Tryz.prog.underlying 203=some (.map 3 204):=Tryz.underlying203
def heldE (v:Value):Option (DataW Value×List MemPlace):=some (.held v,[])
theorem heldE_inv {v:Value} {x:Value} {z:List MemPlace} (h:heldE v=some (.held x,z)):v=x:=by
 unfold heldE at h
 cases h
 rfl
abbrev nilS:Value:=.slice none 0 0
def MapV (w:World) (b n:Nat) (F:Int→Value):Prop:=
 ∃D:DataW Value,w.ownsMap Tryz.prog 3 heldE b n D∧∀u,In6 u→D.atKey (i64K u) (.held nilS)=.held (F u)
def updB (f:Int→Value) (u:Int) (x:Value):Int→Value:=fun v=>if v=u then x else f v
variable {w w':World} {b n:Nat} {F:Int→Value}
theorem MapV.lt (h:MapV w b n F):b<w.heap.size:=let ⟨_,k,_⟩:=h;k.lt
theorem MapV.mono (h:MapV w b n F) {n':Nat} (hn:n≤n'):MapV w b n' F:=let ⟨D,k,r⟩:=h;⟨D,k.mono hn,r⟩
theorem MapV.eq (h:MapV w b n F) (he:w'.heap[b]? =w.heap[b]?):MapV w' b n F:=by
 obtain ⟨D,⟨es,clock,hb,r⟩,q⟩:=h
 exact ⟨D,⟨es,clock,he.trans hb,r⟩,q⟩
theorem MapV.go (h:MapV w b n F) (hb:Below w.heap.size w w'):MapV w' b n F:=h.eq (hb.block b h.lt)
theorem MapV.off {X:Nat→Prop} (h:MapV w b n F) (ho:OffX X w w') (hn:¬X b):MapV w' b n F:=h.eq (ho.block b h.lt hn)
theorem MapV.new (w:World):MapV (w.alloc (.map #[] 0)) w.heap.size 0 (fun _=>nilS):=
 ⟨.map [],World.ownsMap_made w _ _ _,fun u _=>rfl⟩
theorem MapV.look (h:MapV w b n F) {u:Int} (hu:In6 u):(Instr.lookup 203 (.map (some b)) (.int .i64 u) false).run Tryz.prog w=.ok (F u) w:=by
 obtain ⟨D,k,q⟩:=h
 obtain ⟨v,ps,h1,h2⟩:=k.lookup mp_keyed mv_under (z:=nilS) (by kernel_rfl) (zd:=.held nilS) (zp:=[]) rfl (key:=.int .i64 u) (kl:=i64K u) (Maps.keyOf_int_mk Tryz.underlying3 (in6_wf hu))
 rw [q u hu] at h2
 rw [h1,heldE_inv h2]
theorem MapV.put (h:MapV w b n F) (hn:n<1000000000000000000) {u:Int} (x:Value) (hu:In6 u):
  ∃w',(Instr.mapUpdate 203 (.map (some b)) (.int .i64 u) x).run Tryz.prog w=.ok () w'∧MapV w' b (n+1) (updB F u x)∧OffX (· =b) w w':=by
 obtain ⟨D,k,q⟩:=h
 obtain ⟨w',h1,h2,h3⟩:=k.store (H:=Value) mp_keyed mv_under (by unfold maxLen;omega) (key:=.int .i64 u) (val:=x) (kl:=i64K u) (d:=.held x) (ps:=[]) (Maps.keyOf_int_mk Tryz.underlying3 (in6_wf hu)) rfl
 have hg:=h3.grown
 refine ⟨w',h1,⟨_,h2,fun v hv=>?_⟩,⟨hg.os,hg.tape,hg.output,hg.size,fun j hj hjb=>hg.block j hj (fun e=>hjb (Option.some.inj e))⟩⟩
 unfold updB
 by_cases e:v=u
 ·subst e
  rw [if_pos rfl,Maps.atKey_put_same k.isMap (k:=i64K v) trivial]
 ·rw [if_neg e,Maps.atKey_put_other (fun h=>e (by cases h;rfl))]
  exact q v hv
def flatE (l:List (Nat×Int)):List Value:=l.flatMap fun x=>[.int .i64 (x.1:Int),.int .u64 x.2]
theorem flatE_app (l m:List (Nat×Int)):flatE (l++m)=flatE l++flatE m:=by unfold flatE;rw [List.flatMap_append]
theorem flatE_get {l:List (Nat×Int)} {i:Nat} (hi:i<l.length):(flatE l)[2*i]? =some (.int .i64 (l[i].1:Int))∧(flatE l)[2*i+1]? =some (.int .u64 l[i].2):=by
 induction l generalizing i with
 |nil=>simp at hi
 |cons a r ih=>
  have e:flatE (a::r)=[.int .i64 (a.1:Int),.int .u64 a.2]++flatE r:=rfl
  cases i with
  |zero=>rw [e];simp
  |succ k=>
   have:=ih (i:=k) (by simpa using hi)
   rw [e,show 2*(k+1)=2*k+2 from by omega]
   simpa using this
structure BuW (W:World) (mb base n:Nat) (F:Int→Value) (B:Int→List (Nat×Int)):Prop where
 map:MapV W mb n F
 row:∀u,In6 u→W.ownsRow base 206 2 (F u) (B u).length (flatE (B u))
 far:∀u,In6 u→(F u).ownBlock≠some mb
 two:∀u v,In6 u→In6 v→u≠v→∀k,(F u).ownBlock=some k→(F v).ownBlock≠some k
theorem owns_same {W W':World} {base n:Nat} {E:TypeId} {s:Nat} {v:Value} {xs:List Value} (h:W.ownsRow base E s v n xs) (hk:∀k,v.ownBlock=some k→k<W.heap.size→W'.heap[k]? =W.heap[k]?):W'.ownsRow base E s v n xs:=by
 obtain ⟨h1,h2⟩:=h
 refine ⟨h1,?_⟩
 rcases h2 with h2|⟨g,cap,cur,e,hb,hg,r⟩
 ·exact .inl h2
 ·subst e
  exact .inr ⟨g,cap,cur,rfl,hb,(hk g rfl (Array.getElem?_eq_some_iff.1 hg).1).trans hg,r⟩
theorem BuW.go {W W':World} {mb base n:Nat} {F:Int→Value} {B:Int→List (Nat×Int)} (h:BuW W mb base n F B) (hb:Below W.heap.size W W'):BuW W' mb base n F B:=
 ⟨h.map.go hb,fun u hu=>owns_same (h.row u hu) (fun k _ hk=>hb.block k hk),h.far,h.two⟩
theorem BuW.off {X:Nat→Prop} {W W':World} {mb base n:Nat} {F:Int→Value} {B:Int→List (Nat×Int)} (h:BuW W mb base n F B) (ho:OffX X W W') (hm:¬X mb) (hX:∀u,In6 u→∀k,(F u).ownBlock=some k→¬X k):BuW W' mb base n F B:=
 ⟨h.map.off ho hm,fun u hu=>owns_same (h.row u hu) (fun k e hk=>ho.block k hk (hX u hu k e)),h.far,h.two⟩
theorem BuW.new (w:World) (base:Nat):BuW (w.alloc (.map #[] 0)) w.heap.size base 0 (fun _=>nilS) (fun _=>[]):=
 ⟨MapV.new w,fun u _=>World.ownsRow_nil _ _ _ _,(fun _ _ h=>by cases h),(fun _ _ _ _ _ _ h=>by cases h)⟩
theorem BuW.put {W W1 W2:World} {mb base n:Nat} {F:Int→Value} {B:Int→List (Nat×Int)} {u:Int} {v':Value} {x:Nat×Int} (h:BuW W mb base n F B) (hu:In6 u)
  (hg:W.grownBy W1 (F u).ownBlock) (hr:W1.ownsRow base 206 2 v' ((B u).length+1) (flatE (B u)++[.int .i64 (x.1:Int),.int .u64 x.2]))
  (hv:∀k,v'.ownBlock=some k→(F u).ownBlock=some k∨W.heap.size≤k) (hm:MapV W2 mb (n+1) (updB F u v')) (ho:OffX (· =mb) W1 W2):BuW W2 mb base (n+1) (updB F u v') (fun y=>if y=u then B u++[x] else B y):=by
 have hlt:=h.map.lt
 have hv1:∀k,v'.ownBlock=some k→k≠mb:=by
  intro k hk e
  subst e
  rcases hv _ hk with h1|h1
  ·exact h.far u hu h1
  ·omega
 refine ⟨hm,fun y hy=>?_,fun y hy=>?_,fun y z hy hz hyz k hk=>?_⟩
 ·unfold updB
  by_cases e:y=u
  ·subst e
   simp only [if_true]
   rw [List.length_append,flatE_app]
   exact owns_same hr (fun k hk hlt1=>ho.block k hlt1 (hv1 k hk))
  ·simp only [if_neg e]
   refine owns_same (h.row y hy) (fun k hk hlt1=>?_)
   have h1:=hg.block k hlt1 (fun e2=>h.two y u hy hu e k hk e2.symm)
   rw [←h1]
   refine ho.block k (Nat.lt_of_lt_of_le hlt1 hg.size) (fun e2=>?_)
   subst e2
   exact h.far y hy hk
 ·unfold updB
  by_cases e:y=u
  ·simp only [if_pos e]
   exact fun h1=>hv1 _ h1 rfl
  ·simp only [if_neg e]
   exact h.far y hy
 ·have hnew:∀y,In6 y→y≠u→∀k,(F y).ownBlock=some k→v'.ownBlock≠some k:=by
   intro y hy e k hk h1
   rcases hv k h1 with h2|h2
   ·exact h.two y u hy hu e k hk h2
   ·have:=(h.row y hy).lt k hk
    omega
  unfold updB at hk ⊢
  by_cases e:y=u
  ·subst e
   rw [if_pos rfl] at hk
   rw [if_neg (Ne.symm hyz)]
   exact fun h2=>hnew z hz (Ne.symm hyz) k h2 hk
  ·rw [if_neg e] at hk
   by_cases e2:z=u
   ·subst e2
    rw [if_pos rfl]
    exact hnew y hy e k hk
   ·rw [if_neg e2]
    exact h.two y z hy hz hyz k hk
end Go.Proofs.YteaaapdjplbljaaGreat
end
section
namespace Go.Proofs.YteaaapdjplbljaaGreat
open Go.Proofs.YteaaapdjplbljaaGreat.Ch
def arcOf (back:Bool) (e:EdgeD):Arc:=⟨(endsC back e).1,(endsC back e).2,e.w⟩
def arcsC (es:List EdgeD) (back:Bool) (no:List Int):List Arc:=(es.filter (countB no)).map (arcOf back)
def relaxE (back:Bool) (no:List Int) (p:List Int×Bool) (e:EdgeD):List Int×Bool:=if countB no e then relaxC p (arcOf back e) else p
theorem fold_relaxE (back:Bool) (no:List Int):∀(es:List EdgeD) (p:List Int×Bool),es.foldl (relaxE back no) p=(arcsC es back no).foldl relaxC p
 |[],_=>rfl
 |e::es,p=>by
  rw [List.foldl_cons,fold_relaxE back no es]
  unfold relaxE arcsC
  cases h:countB no e<;>simp [List.filter_cons,h]
theorem round_relaxE (es:List EdgeD) (back:Bool) (no d:List Int):es.foldl (relaxE back no) (d,false)=roundC d (arcsC es back no):=fold_relaxE back no es _
theorem relaxE_take {es:List EdgeD} {back:Bool} {no d:List Int} {k:Nat} (h:k<es.length):(es.take (k+1)).foldl (relaxE back no) (d,false)=relaxE back no ((es.take k).foldl (relaxE back no) (d,false)) es[k]:=by
 rw [List.take_succ_eq_append_getElem h,List.foldl_append]
 rfl
theorem countB_iff {no:List Int} {e:EdgeD}:countB no e=true↔e.f∉no∧e.t∉no:=by
 unfold countB
 simp
theorem rel_arcs {es:List EdgeD} {back:Bool} {no:List Int} {u v w:Int}:rel (arcsC es back no) u v w↔relB back (arcG es) u v w∧u∉no∧v∉no:=by
 unfold rel arcsC relB arcG
 simp only [List.mem_map,List.mem_filter,countB_iff]
 cases back
 ·simp only [Bool.false_eq_true,if_false]
  constructor
  ·rintro ⟨e,⟨h1,h2,h3⟩,h4⟩
   cases h4
   exact ⟨⟨e,h1,rfl,rfl,rfl⟩,h2,h3⟩
  ·rintro ⟨⟨e,h1,rfl,rfl,rfl⟩,h2,h3⟩
   exact ⟨e,⟨h1,h2,h3⟩,rfl⟩
 ·simp only [if_true,Turn]
  constructor
  ·rintro ⟨e,⟨h1,h2,h3⟩,h4⟩
   cases h4
   exact ⟨⟨e,h1,rfl,rfl,rfl⟩,h3,h2⟩
  ·rintro ⟨⟨e,h1,rfl,rfl,rfl⟩,h2,h3⟩
   exact ⟨e,⟨h1,h3,h2⟩,rfl⟩
def AllIs (es:List EdgeD) (n:Nat) (s:Int) (back:Bool) (no d:List Int):Prop:=
 d.length=n∧(∀v,node n v→gD d v=FAR∨(0≤gD d v∧gD d v≤1152921504606846976))∧(s∈no→∀v,node n v→gD d v=FAR)∧(s∉no→Exact (arcsC es back no) s n d)
structure Rds (L:List Arc) (s:Int) (n k:Nat) (B:Int) (d:List Int) (c:Bool):Prop where
 so:Sofar L s n (k*B) d
 left:left L s n d+k≤n∨left L s n d=0
 ex:c=false→Exact L s n d
theorem Rds.start (L:List Arc) {s:Int} {n:Nat} (B:Int) (hs:node n s):Rds L s n 0 B ((List.replicate n FAR).set s.toNat 0) true:=
 ⟨by rw [show ((0:Nat):Int)*B=0 by simp];exact Sofar.begin L hs,.inl (by have:=left_le L s n ((List.replicate n FAR).set s.toNat 0);omega),fun h=>by cases h⟩
theorem Rds.go {L:List Arc} {s:Int} {n k:Nat} {W B:Int} {d:List Int} {c:Bool} (hg:Ch.Good L n W) (hW:0≤W) (hs:node n s) (hB:(L.length:Int)*W≤B) (hk:k≤4096) (hm:4097*B+W<FAR) (h:Rds L s n k B d c):Rds L s n (k+1) B (roundC d L).1 (roundC d L).2:=by
 have h0:(0:Int)≤(L.length:Int)*W:=Int.mul_nonneg (by omega) hW
 have h1:(k:Int)*B≤4096*B:=Int.mul_le_mul_of_nonneg_right (by omega) (by omega)
 obtain ⟨a1,a2,a3⟩:=Sofar.round hg hW hs h.so (by omega)
 have e:((k+1:Nat):Int)*B=k*B+B:=by push_cast;rw [Int.add_mul];omega
 refine ⟨a1.mono (by rw [e];omega),?_,a3⟩
 rcases a2 with a2|a2
 ·rcases h.left with h2|h2<;>omega
 ·exact .inr a2
theorem Rds.done {L:List Arc} {s:Int} {n k:Nat} {W B:Int} {d:List Int} {c:Bool} (hg:Ch.Good L n W) (h:Rds L s n k B d c) (he:c=false∨n<k):Exact L s n d:=by
 rcases he with he|he
 ·exact h.ex he
 ·exact h.so.zero hg (by rcases h.left with h2|h2<;>omega)
theorem Exact.is {es:List EdgeD} {n:Nat} {s:Int} {back:Bool} {no d:List Int} {k:Nat} {B:Int} (h:Exact (arcsC es back no) s n d) (hso:Sofar (arcsC es back no) s n (k*B) d) {W:Int} (hg:Ch.Good (arcsC es back no) n W) (hs:s∉no) (hb:(k:Int)*B≤1152921504606846976):AllIs es n s back no d:=
 ⟨h.len,fun v hv=>(hso.way v hv).imp id fun k=>⟨k.1.nonneg hg.hA,by have:=k.2;omega⟩,fun k=>absurd k hs,fun _=>h⟩
theorem AllIs.out {es:List EdgeD} {n:Nat} {s:Int} {back:Bool} {no:List Int} (hs:s∈no):AllIs es n s back no (List.replicate n FAR):=by
 have h:∀v,node n v→gD (List.replicate n FAR) v=FAR:=by
  intro v hv
  unfold gD
  rw [List.getD_eq_getElem?_getD,List.getElem?_replicate]
  split<;>rfl
 exact ⟨by simp,fun v hv=>.inl (h v hv),fun _=>h,fun k=>absurd hs k⟩
theorem arcs_good {es:List EdgeD} {n:Nat} {back:Bool} {no:List Int} (hA:∀u v w,arcG es u v w→nodeN n u∧nodeN n v∧1≤w∧w≤4294967296):Ch.Good (arcsC es back no) n 4294967296:=by
 have key:∀e∈arcsC es back no,node n e.u∧node n e.v∧1≤e.w∧e.w≤4294967296:=by
  intro e he
  have h:=(rel_arcs.1 (show rel (arcsC es back no) e.u e.v e.w from he)).1
  unfold relB at h
  cases back
  ·exact hA _ _ _ h
  ·have:=hA _ _ _ (show arcG es e.v e.u e.w from h)
   exact ⟨this.2.1,this.1,this.2.2⟩
 exact ⟨fun e he=>⟨(key e he).1,(key e he).2.1⟩,fun e he=>⟨(key e he).2.2.1,(key e he).2.2.2⟩⟩
theorem arcs_len {es:List EdgeD} {back:Bool} {no:List Int}:(arcsC es back no).length≤es.length:=by
 unfold arcsC
 rw [List.length_map]
 exact List.length_filter_le _ _
theorem part_bd {es:List EdgeD} {n:Nat} {s:Int} {back:Bool} {no d:List Int} {m W:Int} (hg:Ch.Good (arcsC es back no) n W) (hs:node n s) (hW:0≤W) (h:Sofar (arcsC es back no) s n m d) (hm0:0≤m) (hm:m+es.length*W<FAR) (j:Nat):
  ((es.take j).foldl (relaxE back no) (d,false)).1.length=n∧∀v,node n v→0≤gD ((es.take j).foldl (relaxE back no) (d,false)).1 v∧gD ((es.take j).foldl (relaxE back no) (d,false)).1 v≤4611686018427387904:=by
 rw [fold_relaxE]
 have hsub:∀e∈arcsC (es.take j) back no,e∈arcsC es back no:=by
  intro e he
  unfold arcsC at he ⊢
  obtain ⟨x,hx,rfl⟩:=List.mem_map.1 he
  obtain ⟨h1,h2⟩:=List.mem_filter.1 hx
  exact List.mem_map.2 ⟨x,List.mem_filter.2 ⟨List.mem_of_mem_take h1,h2⟩,rfl⟩
 obtain ⟨a,-,-,-⟩:=Sofar.part hg hs hW (arcsC (es.take j) back no) d m false hsub h
 have hl:(arcsC (es.take j) back no).length≤es.length:=Nat.le_trans arcs_len (by rw [List.length_take];omega)
 have h2:((arcsC (es.take j) back no).length:Int)*W≤(es.length:Int)*W:=Int.mul_le_mul_of_nonneg_right (by omega) hW
 have hF:FAR=4611686018427387904:=rfl
 refine ⟨a.len,fun v hv=>?_⟩
 rcases a.way v hv with k|⟨k,k2⟩
 ·rw [k,hF];omega
 ·exact ⟨k.nonneg hg.hA,by omega⟩
def FarV (A:Int→Int→Int→Prop) (s v x:Int):Prop:=(Dist A s v x∧0≤x∧x≤1152921504606846976)∨(x=FAR∧∀e,¬Way0 A Any s v e)
theorem FarV.uniq {A:Int→Int→Int→Prop} {s v x y:Int} (h:FarV A s v x) (k:FarV A s v y):x=y:=by
 rcases h with ⟨h,_⟩|⟨rfl,h⟩<;>rcases k with ⟨k,_⟩|⟨rfl,k⟩
 ·exact h.uniq k
 ·exact absurd h.1 (k _)
 ·exact absurd k.1 (h _)
 ·rfl
theorem FarV.lt {A:Int→Int→Int→Prop} {s v x:Int} (h:FarV A s v x) (hx:x<FAR):Dist A s v x∧0≤x∧x≤1152921504606846976:=by
 rcases h with h|⟨rfl,_⟩
 ·exact h
 ·exact absurd hx (by decide)
theorem FarV.ge {A:Int→Int→Int→Prop} {s v x:Int} (h:FarV A s v x) (hx:¬x<FAR):x=FAR∧∀e,¬Way0 A Any s v e:=by
 rcases h with ⟨_,_,h⟩|h
 ·unfold FAR at hx;omega
 ·exact h
theorem FarV.in {A:Int→Int→Int→Prop} {s v x:Int} (h:FarV A s v x):0≤x∧x≤4611686018427387904:=by
 rcases h with ⟨_,h⟩|⟨rfl,_⟩
 ·omega
 ·unfold FAR;omega
theorem rel_none (es:List EdgeD) (back:Bool):rel (arcsC es back [])=relB back (arcG es):=by
 funext u v w
 exact propext (rel_arcs.trans ⟨fun h=>h.1,fun h=>⟨h,by simp,by simp⟩⟩)
theorem AllIs.farX {es:List EdgeD} {n:Nat} {s:Int} {back:Bool} {no d:List Int} (hA:∀u v w,rel (arcsC es back no) u v w→1≤w) (h:AllIs es n s back no d) (hs:s∉no) {v:Int} (hv:node n v):FarV (rel (arcsC es back no)) s v (gD d v):=by
 obtain ⟨h1,h2,h3,h4⟩:=h
 have hE:=h4 hs
 by_cases hd:∃e,Dist (rel (arcsC es back no)) s v e
 ·obtain ⟨e,he⟩:=hd
  refine .inl ⟨by rw [hE.dist v e hv he];exact he,?_⟩
  rcases h2 v hv with k|k
  ·exact absurd k (hE.fin v e hv he)
  ·exact k
 ·exact .inr ⟨hE.none v hv fun e he=>hd ⟨e,he⟩,fun e he=>hd (dist_some hA he)⟩
theorem AllIs.far {es:List EdgeD} {n:Nat} {s:Int} {back:Bool} {d:List Int} (hA:∀u v w,relB back (arcG es) u v w→1≤w) (h:AllIs es n s back [] d) {v:Int} (hv:node n v):FarV (relB back (arcG es)) s v (gD d v):=by
 have:=h.farX (fun u v w k=>hA u v w (rel_arcs.1 k).1) (by simp) hv
 rwa [rel_none] at this
end Go.Proofs.YteaaapdjplbljaaGreat
end
section
namespace Go.Proofs.YteaaapdjplbljaaGreat
open Go Go.Proofs Go.RowKit Go.Shelf Go.Proofs.YteaaapdjplbljaaGreat.Hp Go.Proofs.YteaaapdjplbljaaGreat.Ch
def BuS (ls:List (List LB)) (B:Int→List (Nat×Int)):Prop:=∀u e,e∈B u↔∃l,ls[e.1]? =some l∧∃b∈l,b.v=u∧b.d=e.2
theorem BuS.nil:BuS [] (fun _=>[]):=fun u e=>by simp
theorem BuS.open {ls:List (List LB)} {B:Int→List (Nat×Int)} (h:BuS ls B):BuS (ls++[[]]) B:=by
 intro u e
 rw [h u e]
 constructor
 ·rintro ⟨l,h1,h2⟩
  have:=(List.getElem?_eq_some_iff.1 h1).1
  exact ⟨l,by rw [List.getElem?_append_left this];exact h1,h2⟩
 ·rintro ⟨l,h1,b,h2,h3⟩
  rcases Nat.lt_or_ge e.1 ls.length with k|k
  ·rw [List.getElem?_append_left k] at h1
   exact ⟨l,h1,b,h2,h3⟩
  ·rw [List.getElem?_append_right k] at h1
   have:e.1-ls.length=0:=by
    have:=(List.getElem?_eq_some_iff.1 h1).1
    simp at this
    omega
   rw [this] at h1
   cases h1
   cases h2
theorem BuS.add {ls:List (List LB)} {l:List LB} {x:LB} {B:Int→List (Nat×Int)} (h:BuS (ls++[l]) B):BuS (ls++[l++[x]]) (fun y=>if y=x.v then B x.v++[(ls.length,x.d)] else B y):=by
 intro u e
 have hk:(e.1<ls.length∧(ls++[l])[e.1]? =ls[e.1]?∧(ls++[l++[x]])[e.1]? =ls[e.1]?)∨(e.1=ls.length∧(ls++[l])[e.1]? =some l∧(ls++[l++[x]])[e.1]? =some (l++[x]))∨(ls.length<e.1∧(ls++[l])[e.1]? =none∧(ls++[l++[x]])[e.1]? =none):=by
  rcases Nat.lt_trichotomy e.1 ls.length with k|k|k
  ·exact .inl ⟨k,List.getElem?_append_left k,List.getElem?_append_left k⟩
  ·refine .inr (.inl ⟨k,?_,?_⟩)<;>rw [k,List.getElem?_append_right (Nat.le_refl _)]<;>simp
  ·refine .inr (.inr ⟨k,?_,?_⟩)<;>rw [List.getElem?_eq_none]<;>simp<;>omega
 have h1:=h u e
 have key:(e∈(if u=x.v then B x.v++[(ls.length,x.d)] else B u))↔(e∈B u∨(u=x.v∧e=(ls.length,x.d))):=by
  by_cases hu:u=x.v
  ·subst hu
   simp
  ·simp [hu]
 rw [key,h1]
 rcases hk with ⟨k,e1,e2⟩|⟨k,e1,e2⟩|⟨k,e1,e2⟩
 ·rw [e1,e2]
  constructor
  ·rintro (h|⟨_,rfl⟩)
   ·exact h
   ·exact absurd k (by simp)
  ·exact .inl
 ·rw [e1,e2]
  constructor
  ·rintro (⟨l',h2,b,h3,h4⟩|⟨rfl,rfl⟩)
   ·cases h2
    exact ⟨_,rfl,b,List.mem_append_left _ h3,h4⟩
   ·exact ⟨_,rfl,x,by simp,rfl,rfl⟩
  ·rintro ⟨l',h2,b,h3,h4,h5⟩
   cases h2
   rcases List.mem_append.1 h3 with h3|h3
   ·exact .inl ⟨_,rfl,b,h3,h4,h5⟩
   ·obtain rfl:=List.mem_singleton.1 h3
    exact .inr ⟨h4.symm,by rw [←k,h5]⟩
 ·rw [e1,e2]
  constructor
  ·rintro (⟨_,h,_⟩|⟨_,rfl⟩)
   ·cases h
   ·exact absurd k (by simp)
  ·rintro ⟨_,h,_⟩
   cases h
theorem BuS.in {ls:List (List LB)} {B:Int→List (Nat×Int)} (h:BuS ls B) {C:LB→Prop} (hl:∀l∈ls,∀b∈l,C b) {u:Int} {e:Nat×Int} (he:e∈B u):e.1<ls.length∧∃b,C b∧b.v=u∧b.d=e.2:=by
 obtain ⟨l,h1,b,h2,h3,h4⟩:=(h u e).1 he
 exact ⟨(List.getElem?_eq_some_iff.1 h1).1,b,hl l (List.mem_of_getElem? h1) b h2,h3,h4⟩
structure MinR (m:Nat) (row:List Int) (T:Nat→Int→Prop):Prop where
 len:row.length=m
 low:∀k,k<m→∀x,T k x→gD row k≤x
 hit:∀k,k<m→gD row k=4611686018427387904∨T k (gD row k)
 le:∀k,k<m→gD row k≤4611686018427387904
theorem gD_set {row:List Int} {i j:Nat} {x:Int} (hi:i<row.length):gD (row.set i x) (j:Int)=if j=i then x else gD row (j:Int):=by
 unfold gD
 simp only [Int.toNat_natCast]
 by_cases e:j=i
 ·subst e
  simp [List.getD,hi]
 ·rw [if_neg e]
  simp [List.getD,List.getElem?_set,Ne.symm e]
theorem MinR.start (m:Nat):MinR m (List.replicate m 4611686018427387904) (fun _ _=>False):=by
 have hk:∀k,k<m→gD (List.replicate m 4611686018427387904) (k:Int)=4611686018427387904:=by
  intro k hk
  unfold gD
  simp [List.getD,hk]
 exact ⟨by simp,fun _ _ _ h=>h.elim,fun k h=>.inl (hk k h),fun k h=>by rw [hk k h];exact Int.le_refl _⟩
theorem MinR.put {m k:Nat} {row:List Int} {T:Nat→Int→Prop} (h:MinR m row T) (hk:k<m) (x:Int):MinR m (row.set k (min (gD row k) x)) (fun j y=>T j y∨(j=k∧y=x)):=by
 have hl:=h.len
 have hg:∀j:Nat,gD (row.set k (min (gD row k) x)) (j:Int)=if j=k then min (gD row k) x else gD row j:=by
  intro j
  exact gD_set (by rw [hl];exact hk)
 have a1:=h.low k hk
 have a2:=h.hit k hk
 have a3:=h.le k hk
 refine ⟨by simp [hl],fun j hj y hy=>?_,fun j hj=>?_,fun j hj=>?_⟩<;>rw [hg j]<;>by_cases e:j=k
 ·subst e
  rw [if_pos rfl]
  rcases hy with hy|⟨_,rfl⟩
  ·have:=a1 y hy;omega
  ·omega
 ·rw [if_neg e]
  rcases hy with hy|⟨e2,_⟩
  ·exact h.low j hj y hy
  ·exact absurd e2 e
 ·subst e
  rw [if_pos rfl]
  rcases Int.le_total x (gD row j) with k1|k1
  ·rw [Int.min_eq_right k1]
   exact .inr (.inr ⟨rfl,rfl⟩)
  ·rw [Int.min_eq_left k1]
   exact a2.imp_right .inl
 ·rw [if_neg e]
  exact (h.hit j hj).imp_right .inl
 ·subst e
  rw [if_pos rfl]
  omega
 ·rw [if_neg e]
  exact h.le j hj
theorem MinR.cong {m:Nat} {row:List Int} {T T':Nat→Int→Prop} (h:MinR m row T) (he:∀k x,T k x↔T' k x):MinR m row T':=
 ⟨h.len,fun k hk x hx=>h.low k hk x ((he k x).2 hx),fun k hk=>(h.hit k hk).imp_right (he _ _).1,h.le⟩
def SumT (la:List LB) (B:Int→List (Nat×Int)) (i j:Nat) (k:Nat) (x:Int):Prop:=
 (∃a∈la.take i,∃e∈B a.v,e.1=k∧x=a.d+e.2)∨∃(h:i<la.length),∃e∈(B la[i].v).take j,e.1=k∧x=la[i].d+e.2
theorem SumT.none {la:List LB} {B:Int→List (Nat×Int)} {k:Nat} {x:Int}:SumT la B 0 0 k x↔False:=by
 unfold SumT
 simp
theorem SumT.one {la:List LB} {B:Int→List (Nat×Int)} {i j k:Nat} {x:Int} (hi:i<la.length) (hj:j<(B la[i].v).length):(SumT la B i j k x∨(k=(B la[i].v)[j].1∧x=la[i].d+(B la[i].v)[j].2))↔SumT la B i (j+1) k x:=by
 unfold SumT
 have hT:=List.take_succ_eq_append_getElem hj
 constructor
 ·rintro ((h|⟨h,e,h1,h2⟩)|⟨rfl,rfl⟩)
  ·exact .inl h
  ·exact .inr ⟨h,e,by rw [hT];exact List.mem_append_left _ h1,h2⟩
  ·exact .inr ⟨hi,_,by rw [hT];exact List.mem_append_right _ (List.mem_singleton.2 rfl),rfl,rfl⟩
 ·rintro (h|⟨h,e,h1,h2,h3⟩)
  ·exact .inl (.inl h)
  ·rw [hT] at h1
   rcases List.mem_append.1 h1 with h1|h1
   ·exact .inl (.inr ⟨h,e,h1,h2,h3⟩)
   ·obtain rfl:=List.mem_singleton.1 h1
    exact .inr ⟨h2.symm,h3⟩
theorem SumT.next {la:List LB} {B:Int→List (Nat×Int)} {i k:Nat} {x:Int} (hi:i<la.length):SumT la B i (B la[i].v).length k x↔SumT la B (i+1) 0 k x:=by
 unfold SumT
 rw [List.take_succ_eq_append_getElem hi]
 constructor
 ·rintro (⟨a,h1,h2⟩|⟨h,e,h1,h2⟩)
  ·exact .inl ⟨a,List.mem_append_left _ h1,h2⟩
  ·rw [List.take_length] at h1
   exact .inl ⟨_,List.mem_append_right _ (List.mem_singleton.2 rfl),e,h1,h2⟩
 ·rintro (⟨a,h1,h2⟩|⟨h,e,h1,h2⟩)
  ·rcases List.mem_append.1 h1 with h1|h1
   ·exact .inl ⟨a,h1,h2⟩
   ·obtain rfl:=List.mem_singleton.1 h1
    obtain ⟨e,h3,h4⟩:=h2
    exact .inr ⟨hi,e,by rw [List.take_length];exact h3,h4⟩
  ·simp at h1
theorem SumT.all {la:List LB} {B:Int→List (Nat×Int)} {k:Nat} {x:Int}:SumT la B la.length 0 k x↔∃a∈la,∃e∈B a.v,e.1=k∧x=a.d+e.2:=by
 unfold SumT
 rw [List.take_length]
 constructor
 ·rintro (h|⟨h,_⟩)
  ·exact h
  ·exact absurd h (Nat.lt_irrefl _)
 ·exact .inl
def TabRow (es:List EdgeD) (s:Int) (tl row:List Int):Prop:=row.length=tl.length∧∀k (hk:k<tl.length),FarV (arcG es) s tl[k] (gD row (k:Int))∧(gD row (k:Int)=4611686018427387904∨gD row (k:Int)≤422212465065984)
def SpsOK (es:List EdgeD) (S:List SC) (ro:List Int) (n:Nat) (tl:List Int) (ls:List (List LB)):Prop:=
 ∀(j:Nat) (l:List LB),ls[j]? =some l→∃t:Nat,tl[j]? =some (t:Int)∧t<n∧Space (relB true (arcG es)) (XN S true) (rk ro) (t:Int) (l.map labOf)
theorem SpsOK.add {es:List EdgeD} {S:List SC} {ro:List Int} {n:Nat} {tl:List Int} {ls:List (List LB)} {l:List LB} {k t:Nat} (h:SpsOK es S ro n tl ls) (hl:ls.length=k) (ht:tl[k]? =some (t:Int)) (htn:t<n) (hs:Space (relB true (arcG es)) (XN S true) (rk ro) (t:Int) (l.map labOf)):SpsOK es S ro n tl (ls++[l]):=by
 intro j l' hj
 rcases Nat.lt_trichotomy j ls.length with e|e|e
 ·rw [List.getElem?_append_left e] at hj
  exact h j l' hj
 ·rw [e,List.getElem?_append_right (Nat.le_refl _),Nat.sub_self] at hj
  cases hj
  exact ⟨t,by rw [e,hl];exact ht,htn,hs⟩
 ·rw [List.getElem?_eq_none (by simp;omega)] at hj
  cases hj
theorem tab_row {es:List EdgeD} {n:Nat} {R:List Int} {S:List SC} {ro:List Int} {s:Nat} {tl row:List Int} {la:List LB} {ls:List (List LB)} {B:Int→List (Nat×Int)} (hok:HierOK es n R S ro) (hn:n≤12) (hs:s<n)
  (ha:Space (relB false (arcG es)) (XN S false) (rk ro) (s:Int) (la.map labOf)) (hl:ls.length=tl.length) (hsp:SpsOK es S ro n tl ls) (hb:BuS ls B) (hm:MinR tl.length row (SumT la B la.length 0)):TabRow es s tl row:=by
 refine ⟨hm.len,fun k hk=>?_⟩
 obtain ⟨t,ht,htn,hS⟩:=hsp k ls[k] (List.getElem?_eq_getElem (by omega))
 rw [List.getElem?_eq_getElem hk] at ht
 rw [Option.some.inj ht]
 have hla:=labsOK hok ha hs hn
 have hlb:=labsOK hok hS htn hn
 obtain ⟨b1,b2⟩:=Space.both (A:=arcG es) (X:=XN S false) (Y:=XN S true) (hok.hierB false) ha hS
 have hT:∀x,SumT la B la.length 0 k x↔∃a∈la,∃b∈ls[k],a.v=b.v∧x=a.d+b.d:=by
  intro x
  rw [SumT.all]
  constructor
  ·rintro ⟨a,h1,e,h2,rfl,rfl⟩
   obtain ⟨l,h3,b,h4,h5,h6⟩:=(hb _ _).1 h2
   have:ls[e.1]=l:=by rw [List.getElem?_eq_getElem (by omega)] at h3;exact Option.some.inj h3
   subst this
   exact ⟨a,h1,b,h4,h5.symm,by rw [h6]⟩
  ·rintro ⟨a,h1,b,h2,h3,rfl⟩
   exact ⟨a,h1,(k,b.d),(hb _ _).2 ⟨_,List.getElem?_eq_getElem (by omega),b,h2,h3.symm,rfl⟩,rfl,rfl⟩
 have hW:∀x,SumT la B la.length 0 k x→Way0 (arcG es) Any s t x∧0≤x∧x≤422212465065984:=by
  intro x hx
  obtain ⟨a,h1,b,h2,h3,rfl⟩:=(hT x).1 hx
  have h4:=hla a h1
  have h5:=hlb b h2
  exact ⟨b1 (labOf a) (List.mem_map.2 ⟨a,h1,rfl⟩) (labOf b) (List.mem_map.2 ⟨b,h2,rfl⟩) h3,by omega,by omega⟩
 have hD:∀d,Dist (arcG es) s t d→SumT la B la.length 0 k d:=by
  intro d hd
  obtain ⟨a,h1,b,h2,h3,h4⟩:=b2 d hd
  obtain ⟨a',h5,rfl⟩:=List.mem_map.1 h1
  obtain ⟨b',h6,rfl⟩:=List.mem_map.1 h2
  exact (hT d).2 ⟨a',h5,b',h6,h3,h4.symm⟩
 have hA1:∀u v w,arcG es u v w→1≤w:=(hok.hierB false).pos
 rcases hm.hit k hk with h1|h1
 ·refine ⟨.inr ⟨h1,fun e he=>?_⟩,.inl h1⟩
  obtain ⟨d,hd⟩:=dist_some hA1 he
  have h2:=hD d hd
  have h3:=hm.low k hk d h2
  have h4:=hW d h2
  omega
 ·obtain ⟨h2,h3,h4⟩:=hW _ h1
  obtain ⟨d,hd⟩:=dist_some hA1 h2
  have h5:=hm.low k hk d (hD d hd)
  have h6:=hd.2 _ h2
  have:d=gD row (k:Int):=by omega
  subst this
  exact ⟨.inl ⟨hd,h3,by omega⟩,.inr h4⟩
noncomputable def distV (es:List EdgeD) (s t:Int):Int:=@dite _ (∃x,FarV (arcG es) s t x) (Classical.propDecidable _) (fun h=>Classical.choose h) (fun _=>0)
theorem FarV.eqD {es:List EdgeD} {s t x:Int} (h:FarV (arcG es) s t x):x=distV es s t:=by
 have h2:∃x,FarV (arcG es) s t x:=⟨x,h⟩
 unfold distV
 rw [dif_pos h2]
 exact h.uniq (Classical.choose_spec h2)
theorem TabRow.eq {es:List EdgeD} {s:Int} {tl row:List Int} (h:TabRow es s tl row):row=tl.map (distV es s):=by
 refine List.ext_getElem (by simp [h.1]) (fun i h1 h2=>?_)
 have h3:=(h.2 i (by rw [←h.1];exact h1)).1.eqD
 rw [List.getElem_map,←h3]
 unfold gD
 simp [List.getD,h1]
def DistT (es:List EdgeD) (s t:Int):Prop:=FarV (arcG es) s t (distV es s t)∧(distV es s t=4611686018427387904∨distV es s t≤422212465065984)
theorem TabRow.at {es:List EdgeD} {s:Int} {tl row:List Int} (h:TabRow es s tl row) {k:Nat} (hk:k<tl.length):DistT es s tl[k]∧gD row (k:Int)=distV es s tl[k]:=by
 obtain ⟨h1,h2⟩:=h.2 k hk
 have h3:=h1.eqD
 rw [h3] at h1 h2
 exact ⟨⟨h1,h2⟩,h3⟩
theorem DistT.in {es:List EdgeD} {s t:Int} (h:DistT es s t):0≤distV es s t∧distV es s t≤4611686018427387904:=h.1.in
theorem DistT.lt {es:List EdgeD} {s t:Int} (h:DistT es s t) (hx:distV es s t<4611686018427387904):Dist (arcG es) s t (distV es s t)∧distV es s t≤422212465065984:=by
 obtain ⟨h1,h2⟩:=h
 exact ⟨(h1.lt hx).1,by omega⟩
def legSum (D:Int→Int→Int) (l:List Int):Nat→Int
 |0=>0
 |k+1=>legSum D l k+D (l.getD k 0) (l.getD (k+1) 0)
def legsOK (D:Int→Int→Int) (l:List Int) (k:Nat):Prop:=∀j,j<k→D (l.getD j 0) (l.getD (j+1) 0)<4611686018427387904
theorem legsOK.none (D:Int→Int→Int) (l:List Int):legsOK D l 0:=fun j h=>absurd h (Nat.not_lt_zero _)
theorem legsOK.more {D:Int→Int→Int} {l:List Int} {k:Nat} (h:legsOK D l k) (hk:D (l.getD k 0) (l.getD (k+1) 0)<4611686018427387904):legsOK D l (k+1):=by
 intro j hj
 by_cases e:j=k
 ·subst e;exact hk
 ·exact h j (by omega)
theorem legSum_in {es:List EdgeD} {l:List Int}:∀{k:Nat},legsOK (distV es) l k→(∀j,j<k→DistT es (l.getD j 0) (l.getD (j+1) 0))→0≤legSum (distV es) l k∧legSum (distV es) l k≤422212465065984*(k:Int)
 |0,_,_=>by simp [legSum]
 |k+1,h,hd=>by
  obtain ⟨h1,h2⟩:=legSum_in (k:=k) (fun j hj=>h j (by omega)) (fun j hj=>hd j (by omega))
  have h3:=hd k (by omega)
  have h4:=(h3.lt (h k (by omega))).2
  have h5:=h3.in.1
  show 0≤legSum (distV es) l k+distV es (l.getD k 0) (l.getD (k+1) 0)∧legSum (distV es) l k+distV es (l.getD k 0) (l.getD (k+1) 0)≤_
  have e:((k+1:Nat):Int)=(k:Int)+1:=by omega
  rw [e]
  omega
end Go.Proofs.YteaaapdjplbljaaGreat
end
