/- A map of places by pairs of numbers, as it lies in memory. The core of a contraction as it lies in memory. -/
import Derived.Test.YtkdomobedfhhgaaGreatProg
import Derived.Test.YtkdomobedfhhgaaGreatQm12
import Derived.WideKeyPair
import Derived.Test.YtkdomobedfhhgaaGreatQm14
set_option linter.unusedVariables false
set_option linter.unusedSimpArgs false
set_option linter.unnecessarySimpa false
section
namespace Go.Proofs.YtkdomobedfhhgaaGreat
open Go Go.Proofs Go.RowKit Go.Shelf Go.Proofs.YtkdomobedfhhgaaGreat.Ch
theorem mq_arr:Go.WideMaps.ArrKey Tryz.prog 242 3 2:=⟨Tryz.underlying242,by kernel_rfl,by kernel_rfl,by kernel_rfl⟩
theorem mq_keyed:Maps.Keyed Tryz.prog 242:=Maps.Keyed.of_law mq_arr.law
theorem mq_under:Tryz.prog.underlying 192=some (.map 242 3):=Tryz.underlying192
def pairK (u v:Int):Lit:=.string (keyBytes [.int .i64 u,.int .i64 v])
theorem pairK_of {u v:Int} (hu:In6 u) (hv:In6 v):keyOf Tryz.prog 242 (.agg #[.int .i64 u,.int .i64 v])=some (pairK u v):=
 Go.WideMaps.keyOf_pair mq_arr Tryz.underlying3 ⟨Tryz.prog.types.size-1,by kernel_rfl⟩ (in6_wf hu) (in6_wf hv)
theorem pairK_inj {u v u' v':Int} (hu:In6 u) (hv:In6 v) (hu':In6 u') (hv':In6 v') (h:pairK u v=pairK u' v'):u=u'∧v=v':=by
 have:=mq_keyed.inj (pairK_of hu hv) (by rw [h];exact pairK_of hu' hv')
 simp at this
 exact this
def posO (o:Option Nat):Int:=o.elim 0 (fun i=>(i:Int))
def MapP (w:World) (b n:Nat) (p:Int→Int→Option Nat):Prop:=
 ∃D:DataW Unit,w.ownsMap Tryz.prog 242 (plainElem Tryz.prog 3) b n D∧∀u v,In6 u→In6 v→Maps.has D (pairK u v)=(p u v).isSome∧D.atKey (pairK u v) (.lit (.int .i64 0))=.lit (.int .i64 (posO (p u v)))
variable {w w':World} {b n:Nat} {p:Int→Int→Option Nat}
theorem MapP.lt (h:MapP w b n p):b<w.heap.size:=let ⟨_,k,_⟩:=h;k.lt
theorem MapP.mono (h:MapP w b n p) {n':Nat} (hn:n≤n'):MapP w b n' p:=let ⟨D,k,r⟩:=h;⟨D,k.mono hn,r⟩
theorem MapP.eq (h:MapP w b n p) (he:w'.heap[b]? =w.heap[b]?):MapP w' b n p:=by
 obtain ⟨D,⟨es,clock,hb,r⟩,q⟩:=h
 exact ⟨D,⟨es,clock,he.trans hb,r⟩,q⟩
theorem MapP.go (h:MapP w b n p) (hb:Below w.heap.size w w'):MapP w' b n p:=h.eq (hb.block b h.lt)
theorem MapP.off {X:Nat→Prop} (h:MapP w b n p) (ho:OffX X w w') (hn:¬X b):MapP w' b n p:=h.eq (ho.block b h.lt hn)
theorem MapP.new (w:World):MapP (w.alloc (.map #[] 0)) w.heap.size 0 (fun _ _=>none):=
 ⟨.map [],World.ownsMap_made w _ _ _,fun u _ _ _=>⟨rfl,rfl⟩⟩
theorem mq_zero (w:World):(zeroValue 3).run Tryz.prog w=.ok (.int .i64 0) w:=by kernel_rfl
theorem MapP.look (h:MapP w b n p) {u v:Int} (hu:In6 u) (hv:In6 v):(Instr.lookup 192 (.map (some b)) (.agg #[.int .i64 u,.int .i64 v]) true).run Tryz.prog w=.ok (.tuple #[.int .i64 (posO (p u v)),.bool (p u v).isSome]) w:=by
 obtain ⟨D,k,q⟩:=h
 obtain ⟨x,ps,h1,h2⟩:=k.look_ok mq_keyed mq_under (mq_zero w) (zd:=.lit (.int .i64 0)) (zp:=[]) (plainElem_int Tryz.underlying3 (by decide)) (pairK_of hu hv)
 obtain ⟨q1,q2⟩:=q u v hu hv
 rw [q2] at h2
 obtain ⟨c,rfl,hc,_⟩:=plainElem_int_inv Tryz.underlying3 h2
 simp only [Prod.mk.injEq,DataW.lit.injEq,Lit.int.injEq,true_and] at hc
 rw [h1,q1,hc.1]
theorem MapP.get (h:MapP w b n p) {u v:Int} (hu:In6 u) (hv:In6 v):(Instr.lookup 192 (.map (some b)) (.agg #[.int .i64 u,.int .i64 v]) false).run Tryz.prog w=.ok (.int .i64 (posO (p u v))) w:=by
 obtain ⟨D,k,q⟩:=h
 obtain ⟨x,ps,h1,h2⟩:=k.lookup mq_keyed mq_under (mq_zero w) (zd:=.lit (.int .i64 0)) (zp:=[]) (plainElem_int Tryz.underlying3 (by decide)) (pairK_of hu hv)
 obtain ⟨q1,q2⟩:=q u v hu hv
 rw [q2] at h2
 obtain ⟨c,rfl,hc,_⟩:=plainElem_int_inv Tryz.underlying3 h2
 simp only [Prod.mk.injEq,DataW.lit.injEq,Lit.int.injEq,true_and] at hc
 rw [h1,hc.1]
theorem MapP.put (h:MapP w b n p) (hn:n<1000000000000000000) {u v:Int} {i:Nat} (hu:In6 u) (hv:In6 v) (hi:i<1000000000000000000):
  ∃w',(Instr.mapUpdate 192 (.map (some b)) (.agg #[.int .i64 u,.int .i64 v]) (.int .i64 (i:Int))).run Tryz.prog w=.ok () w'∧MapP w' b (n+1) (fun a c=>if a=u∧c=v then some i else p a c)∧OffX (· =b) w w'∧w'.heap.size=w.heap.size∧∀a,w'.frozen? a=w.frozen? a:=by
 obtain ⟨D,k,q⟩:=h
 obtain ⟨w',h1,h2,h3⟩:=k.store (H:=Unit) mq_keyed mq_under (by unfold maxLen;omega) (val:=.int .i64 (i:Int)) (d:=.lit (.int .i64 (i:Int))) (ps:=[]) (pairK_of hu hv) (plainElem_int Tryz.underlying3 (in6_wf (by constructor<;>omega)))
 have hg:=h3.grown
 have hz:w'.heap.size=w.heap.size:=by
  obtain ⟨es,clock,es',clock',hb,rfl⟩:=h3
  simp [ChangeMaps.setBlock]
 refine ⟨w',h1,⟨_,h2,fun a c ha hc=>?_⟩,⟨hg.os,hg.tape,hg.output,hg.size,fun j hj hjb=>hg.block j hj (fun e=>hjb (Option.some.inj e))⟩,hz,h3.frozen⟩
 obtain ⟨q1,q2⟩:=q a c ha hc
 show _=(if a=u∧c=v then some i else p a c).isSome∧_=DataW.lit (Lit.int IntKind.i64 (posO (if a=u∧c=v then some i else p a c)))
 by_cases e:a=u∧c=v
 ·obtain ⟨rfl,rfl⟩:=e
  rw [if_pos ⟨rfl,rfl⟩,Maps.has_put_same k.isMap (k:=pairK a c) trivial,Maps.atKey_put_same k.isMap (k:=pairK a c) trivial]
  exact ⟨rfl,rfl⟩
 ·rw [if_neg e,Maps.has_put_other (fun h=>e (pairK_inj ha hc hu hv h)),Maps.atKey_put_other (fun h=>e (pairK_inj ha hc hu hv h))]
  exact ⟨q1,q2⟩
end Go.Proofs.YtkdomobedfhhgaaGreat
end
section
namespace Go.Proofs.YtkdomobedfhhgaaGreat
open Go Go.Proofs Go.RowKit Go.Shelf Go.Proofs.YtkdomobedfhhgaaGreat.Hp Go.Proofs.YtkdomobedfhhgaaGreat.Ch
def cellsS (x:SC):List Value:=[.int .i64 x.f,.int .i64 x.t,.int .u64 x.w,.int .i64 x.e,.int .i64 x.a,.int .i64 x.b]
def flatS:List SC→List Value
 |[]=>[]
 |x::l=>cellsS x++flatS l
theorem flatS_len:∀l,(flatS l).length=l.length*6
 |[]=>rfl
 |x::l=>by rw [flatS];simp [flatS_len l,cellsS];omega
theorem flatS_append:∀(l m:List SC),flatS (l++m)=flatS l++flatS m
 |[],m=>rfl
 |x::l,m=>by rw [List.cons_append,flatS,flatS,flatS_append l m,List.append_assoc]
theorem flatS_get:∀(l:List SC) (k:Nat) (h:k<l.length) (j:Nat),j<6→(flatS l)[k*6+j]? =(cellsS l[k])[j]?
 |x::l,0,_,j,hj=>by
  rw [flatS,List.getElem?_append_left (by simp [cellsS];omega)]
  simp
 |x::l,k+1,h,j,hj=>by
  have:=flatS_get l k (by simpa using h) j hj
  rw [flatS,List.getElem?_append_right (by simp [cellsS];omega)]
  rw [show (k+1)*6+j-(cellsS x).length=k*6+j by simp [cellsS];omega]
  exact this
structure CS where
 cb:Nat
 ob:Nat
 gb:Nat
 mb:Nat
 db:Nat
 cO:Nat
 cG:Nat
 cD:Nat
 hops:Int
 settles:Int
 vr:Value
 vS:Value
 rows:List Value
 c:CoreD
 gone:List Bool
 dep:List Int
 nb:Nat
abbrev nilV:Value:=.slice none 0 0
def CS.blk (s:CS):Nat→Option Nat
 |0=>some s.cb
 |1=>some s.ob
 |2=>some s.gb
 |3=>some s.mb
 |4=>some s.db
 |5=>s.vS.ownBlock
 |i+6=>(s.rows.getD i nilV).ownBlock
def CS.X (s:CS) (k:Nat):Prop:=∃i,s.blk i=some k
abbrev CS.n (s:CS):Nat:=s.c.O.length
def CS.cells (s:CS):List Value:=[.slice (some ⟨s.ob,0,none⟩) s.n s.cO,.slice (some ⟨s.gb,0,none⟩) s.n s.cG,.map (some s.mb),s.vS,.int .i64 s.hops,.int .i64 s.settles,s.vr,.slice (some ⟨s.db,0,none⟩) s.n s.cD]
structure CoreW (w:World) (base:Nat) (s:CS):Prop where
 re:PB w s.cb s.cells
 out:w.ownsRow base 235 1 (.slice (some ⟨s.ob,0,none⟩) s.n s.cO) s.n s.rows
 gon:w.ownsRow base 4 1 (.slice (some ⟨s.gb,0,none⟩) s.n s.cG) s.n (s.gone.map encB)
 dp:w.ownsRow base 3 1 (.slice (some ⟨s.db,0,none⟩) s.n s.cD) s.n (s.dep.map encI)
 mp:MapP w s.mb s.nb s.c.p
 ss:w.ownsRow base 79 6 s.vS s.c.S.length (flatS s.c.S)
 row:∀u,w.ownsRow base 241 2 (s.rows.getD u nilV) (s.c.O.getD u []).length (flatI (s.c.O.getD u []))
 ge:∀i k,s.blk i=some k→base≤k∧k<w.heap.size
 sep:∀i j k,i≠j→s.blk i=some k→s.blk j≠some k
variable {w w':World} {base:Nat} {s:CS}
theorem CoreW.lens (h:CoreW w base s):s.rows.length=s.n∧s.gone.length=s.n∧s.dep.length=s.n:=by
 have h1:=h.out.1
 have h2:=h.gon.1
 have h3:=h.dp.1
 simp at h1 h2 h3
 exact ⟨h1,h2,h3⟩
theorem owns_eqb {w w':World} {base size n:Nat} {e:TypeId} {v:Value} {xs:List Value} (h:w.ownsRow base e size v n xs) (he:∀k,v.ownBlock=some k→w'.heap[k]? =w.heap[k]?):w'.ownsRow base e size v n xs:=by
 refine ⟨h.1,?_⟩
 rcases h.2 with h2|⟨g,cap,cur,hv,hb,hg,r⟩
 ·exact .inl h2
 ·exact .inr ⟨g,cap,cur,hv,hb,(he g (by rw [hv];rfl)).trans hg,r⟩
theorem CoreW.off {X:Nat→Prop} (h:CoreW w base s) (ho:OffX X w w') (hX:∀k,s.X k→¬X k):CoreW w' base s:=by
 have hk:∀i k,s.blk i=some k→w'.heap[k]? =w.heap[k]?:=fun i k hi=>ho.block k (h.ge i k hi).2 (hX k ⟨i,hi⟩)
 exact ⟨h.re.eq (hk 0 _ rfl),owns_eqb h.out (fun k e=>hk 1 k e),owns_eqb h.gon (fun k e=>hk 2 k e),owns_eqb h.dp (fun k e=>hk 4 k e),h.mp.eq (hk 3 _ rfl),owns_eqb h.ss (fun k e=>hk 5 k e),fun u=>owns_eqb (h.row u) (fun k e=>hk (u+6) k e),
  fun i k hi=>⟨(h.ge i k hi).1,by have:=(h.ge i k hi).2;have:=ho.size;omega⟩,h.sep⟩
theorem CoreW.go (h:CoreW w base s) (hb:Below w.heap.size w w'):CoreW w' base s:=h.off (X:=fun _=>False) (.of_below hb) (fun _ _ h=>h)
theorem CoreW.map (h:CoreW w base s) {p:Int→Int→Option Nat} {nb:Nat} (hm:MapP w' s.mb nb p) (ho:OffX (· =s.mb) w w'):CoreW w' base { s with c:=⟨s.c.O,p,s.c.S⟩,nb:=nb }:=by
 have hk:∀i k,i≠3→s.blk i=some k→w'.heap[k]? =w.heap[k]?:=fun i k hi hb=>ho.block k (h.ge i k hb).2 (fun e=>h.sep i 3 k hi hb (by rw [e];rfl))
 exact ⟨h.re.eq (hk 0 _ (by omega) rfl),owns_eqb h.out (fun k e=>hk 1 k (by omega) e),owns_eqb h.gon (fun k e=>hk 2 k (by omega) e),owns_eqb h.dp (fun k e=>hk 4 k (by omega) e),hm,owns_eqb h.ss (fun k e=>hk 5 k (by omega) e),fun u=>owns_eqb (h.row u) (fun k e=>hk (u+6) k (by omega) e),
  fun i k hi=>⟨(h.ge i k hi).1,by have:=(h.ge i k hi).2;have:=ho.size;omega⟩,h.sep⟩
theorem sep_set {f f':Nat→Option Nat} {i0 N:Nat} (hsep:∀i j k,i≠j→f i=some k→f j≠some k) (hlt:∀i k,f i=some k→k<N) (hne:∀i,i≠i0→f' i=f i) (hi0:f' i0=f i0∨∃g,f' i0=some g∧N≤g):
  ∀i j k,i≠j→f' i=some k→f' j≠some k:=by
 intro i j k hij hi hj
 by_cases e1:i=i0
 ·subst e1
  rw [hne j (Ne.symm hij)] at hj
  rcases hi0 with e|⟨g,e,hg⟩
  ·rw [e] at hi
   exact hsep i j k hij hi hj
  ·rw [e] at hi
   cases hi
   have:=hlt _ _ hj
   omega
 ·rw [hne i e1] at hi
  by_cases e2:j=i0
  ·subst e2
   rcases hi0 with e|⟨g,e,hg⟩
   ·rw [e] at hj
    exact hsep i j k hij hi hj
   ·rw [e] at hj
    cases hj
    have:=hlt _ _ hi
    omega
  ·rw [hne j e2] at hj
   exact hsep i j k hij hi hj
theorem same_cell {W:World} {a:Addr} {v:Value} {k:Nat} (h:k≠a.block):(W.setCell a v).heap[k]? =W.heap[k]?:=Below.heap_setCell _ _ _ _ h
theorem CoreW.sapp (h:CoreW w base s) {v':Value} {S':List SC} (hown:w'.ownsRow base 79 6 v' S'.length (flatS S')) (ho:OffX (fun k=>s.vS.ownBlock=some k) w w') (hb:v'.ownBlock=s.vS.ownBlock∨∃g,v'.ownBlock=some g∧w.heap.size≤g):
  CoreW (w'.setCell ⟨s.cb,3,none⟩ v') base { s with vS:=v',c:=⟨s.c.O,s.c.p,S'⟩ }:=by
 have hk:∀i k,i≠5→s.blk i=some k→w'.heap[k]? =w.heap[k]?:=fun i k hi hb=>ho.block k (h.ge i k hb).2 (fun e=>h.sep i 5 k hi hb e)
 have hk2:∀i k,i≠5→i≠0→s.blk i=some k→(w'.setCell ⟨s.cb,3,none⟩ v').heap[k]? =w.heap[k]?:=fun i k hi h0 hb=>(same_cell (fun e=>h.sep 0 i k (Ne.symm h0) (by rw [show k=s.cb from e];rfl) hb)).trans (hk i k hi hb)
 have hne:∀i,i≠5→CS.blk { s with vS:=v',c:=⟨s.c.O,s.c.p,S'⟩ } i=s.blk i:=by
  intro i hi
  match i with
  |0|1|2|3|4=>rfl
  |5=>exact absurd rfl hi
  |i+6=>rfl
 have hvc:∀k,v'.ownBlock=some k→k≠s.cb:=by
  rintro k hk3 rfl
  rcases hb with e|⟨g,e,hg⟩
  ·exact h.sep 0 5 s.cb (by omega) rfl (by show s.vS.ownBlock=_;rw [←e];exact hk3)
  ·rw [e] at hk3
   cases hk3
   have:=(h.ge 0 s.cb rfl).2
   omega
 refine ⟨?_,owns_eqb h.out (fun k e=>hk2 1 k (by omega) (by omega) e),owns_eqb h.gon (fun k e=>hk2 2 k (by omega) (by omega) e),owns_eqb h.dp (fun k e=>hk2 4 k (by omega) (by omega) e),h.mp.eq (hk2 3 _ (by omega) (by omega) rfl),owns_eqb hown (fun k e=>same_cell (hvc k e)),
  fun u=>owns_eqb (h.row u) (fun k e=>hk2 (u+6) k (by omega) (by omega) e),?_,sep_set h.sep (fun i k hi=>(h.ge i k hi).2) hne hb⟩
 ·exact (h.re.eq (hk 0 _ (by omega) rfl)).set 3 v'
 ·intro i k hi
  by_cases e:i=5
  ·subst e
   have:=hown.lt k hi
   exact ⟨this.1,by rw [World.size_setCell];exact this.2⟩
  ·rw [hne i e] at hi
   have:=h.ge i k hi
   exact ⟨this.1,by rw [World.size_setCell];have:=ho.size;omega⟩
theorem CoreW.rset (h:CoreW w base s) {v':Value} {u:Nat} {r':List (Int×Int)} (hu:u<s.n) (hown:w'.ownsRow base 241 2 v' r'.length (flatI r')) (ho:OffX (fun k=>(s.rows.getD u nilV).ownBlock=some k) w w')
  (hb:v'.ownBlock=(s.rows.getD u nilV).ownBlock∨∃g,v'.ownBlock=some g∧w.heap.size≤g):
  CoreW (w'.setCell ⟨s.ob,u,none⟩ v') base { s with rows:=s.rows.set u v',c:=⟨s.c.O.set u r',s.c.p,s.c.S⟩ }:=by
 obtain ⟨l1,l2,l3⟩:=h.lens
 have hn:CS.n { s with rows:=s.rows.set u v',c:=⟨s.c.O.set u r',s.c.p,s.c.S⟩ }=s.n:=List.length_set
 have hk:∀i k,i≠u+6→s.blk i=some k→w'.heap[k]? =w.heap[k]?:=fun i k hi hb=>ho.block k (h.ge i k hb).2 (fun e=>h.sep i (u+6) k hi hb e)
 have hk2:∀i k,i≠u+6→i≠1→s.blk i=some k→(w'.setCell ⟨s.ob,u,none⟩ v').heap[k]? =w.heap[k]?:=fun i k hi h0 hb=>(same_cell (fun e=>h.sep 1 i k (Ne.symm h0) (by rw [show k=s.ob from e];rfl) hb)).trans (hk i k hi hb)
 have hgd:∀i,(s.rows.set u v').getD i nilV=if i=u then v' else s.rows.getD i nilV:=fun i=>getD_set _ _ _ _ _ (by omega)
 have hgO:∀i,(s.c.O.set u r').getD i []=if i=u then r' else s.c.O.getD i []:=fun i=>getD_set _ _ _ _ _ hu
 have hne:∀i,i≠u+6→CS.blk { s with rows:=s.rows.set u v',c:=⟨s.c.O.set u r',s.c.p,s.c.S⟩ } i=s.blk i:=by
  intro i hi
  match i with
  |0|1|2|3|4|5=>rfl
  |i+6=>
   show ((s.rows.set u v').getD i nilV).ownBlock=(s.rows.getD i nilV).ownBlock
   rw [hgd,if_neg (by omega)]
 have hu6:CS.blk { s with rows:=s.rows.set u v',c:=⟨s.c.O.set u r',s.c.p,s.c.S⟩ } (u+6)=v'.ownBlock:=by
  show ((s.rows.set u v').getD u nilV).ownBlock=_
  rw [hgd,if_pos rfl]
 have hvc:∀k,v'.ownBlock=some k→k≠s.ob:=by
  rintro k hk3 rfl
  rcases hb with e|⟨g,e,hg⟩
  ·exact h.sep 1 (u+6) s.ob (by omega) rfl (by show (s.rows.getD u nilV).ownBlock=_;rw [←e];exact hk3)
  ·rw [e] at hk3
   cases hk3
   have:=(h.ge 1 s.ob rfl).2
   omega
 refine ⟨?_,?_,?_,?_,h.mp.eq (hk2 3 _ (by omega) (by omega) rfl),owns_eqb h.ss (fun k e=>hk2 5 k (by omega) (by omega) e),?_,?_,sep_set h.sep (fun i k hi=>(h.ge i k hi).2) hne (by rw [hu6];exact hb)⟩
 ·have:=h.re.eq (hk2 0 _ (by omega) (by omega) rfl)
  unfold CS.cells at this ⊢
  rw [hn]
  exact this
 ·rw [hn]
  exact (((owns_eqb h.out (fun k e=>hk 1 k (by omega) e):w'.ownsRow base _ 1 _ _ s.rows)).stored u v').1
 ·rw [hn]
  exact owns_eqb h.gon (fun k e=>hk2 2 k (by omega) (by omega) e)
 ·rw [hn]
  exact owns_eqb h.dp (fun k e=>hk2 4 k (by omega) (by omega) e)
 ·intro i
  show World.ownsRow _ base _ 2 ((s.rows.set u v').getD i nilV) ((s.c.O.set u r').getD i []).length (flatI ((s.c.O.set u r').getD i []))
  rw [hgd,hgO]
  by_cases e:i=u
  ·rw [if_pos e,if_pos e]
   exact owns_eqb hown (fun k e=>same_cell (hvc k e))
  ·rw [if_neg e,if_neg e]
   exact owns_eqb (h.row i) (fun k e2=>hk2 (i+6) k (by omega) (by omega) e2)
 ·intro i k hi
  by_cases e:i=u+6
  ·subst e
   rw [hu6] at hi
   have:=hown.lt k hi
   exact ⟨this.1,by rw [World.size_setCell];exact this.2⟩
  ·rw [hne i e] at hi
   have:=h.ge i k hi
   exact ⟨this.1,by rw [World.size_setCell];have:=ho.size;omega⟩
theorem CoreW.gset (h:CoreW w base s) (u:Nat) (b:Bool):CoreW (w.setCell ⟨s.gb,u,none⟩ (.bool b)) base { s with gone:=s.gone.set u b }:=by
 have hk2:∀i k,i≠2→s.blk i=some k→(w.setCell ⟨s.gb,u,none⟩ (.bool b)).heap[k]? =w.heap[k]?:=fun i k h0 hb=>same_cell (fun e=>h.sep 2 i k (Ne.symm h0) (by rw [show k=s.gb from e];rfl) hb)
 refine ⟨h.re.eq (hk2 0 _ (by omega) rfl),owns_eqb h.out (fun k e=>hk2 1 k (by omega) e),?_,owns_eqb h.dp (fun k e=>hk2 4 k (by omega) e),h.mp.eq (hk2 3 _ (by omega) rfl),owns_eqb h.ss (fun k e=>hk2 5 k (by omega) e),fun u=>owns_eqb (h.row u) (fun k e=>hk2 (u+6) k (by omega) e),
  fun i k hi=>by rw [World.size_setCell];exact h.ge i k hi,h.sep⟩
 have:=(h.gon.stored u (.bool b)).1
 show World.ownsRow _ _ _ _ _ _ ((s.gone.set u b).map encB)
 rw [List.map_set]
 exact this
theorem CoreW.dset (h:CoreW w base s) (u:Nat) (x:Int):CoreW (w.setCell ⟨s.db,u,none⟩ (.int .i64 x)) base { s with dep:=s.dep.set u x }:=by
 have hk2:∀i k,i≠4→s.blk i=some k→(w.setCell ⟨s.db,u,none⟩ (.int .i64 x)).heap[k]? =w.heap[k]?:=fun i k h0 hb=>same_cell (fun e=>h.sep 4 i k (Ne.symm h0) (by rw [show k=s.db from e];rfl) hb)
 refine ⟨h.re.eq (hk2 0 _ (by omega) rfl),owns_eqb h.out (fun k e=>hk2 1 k (by omega) e),owns_eqb h.gon (fun k e=>hk2 2 k (by omega) e),?_,h.mp.eq (hk2 3 _ (by omega) rfl),owns_eqb h.ss (fun k e=>hk2 5 k (by omega) e),fun u=>owns_eqb (h.row u) (fun k e=>hk2 (u+6) k (by omega) e),
  fun i k hi=>by rw [World.size_setCell];exact h.ge i k hi,h.sep⟩
 have:=(h.dp.stored u (.int .i64 x)).1
 show World.ownsRow _ _ _ _ _ _ ((s.dep.set u x).map encI)
 rw [List.map_set]
 exact this
theorem CoreW.net (h:CoreW w base s):NetW w (.slice (some ⟨s.ob,0,none⟩) s.n s.cO) (.slice (some ⟨s.gb,0,none⟩) s.n s.cG) s.c.O s.gone:=by
 obtain ⟨l1,l2,l3⟩:=h.lens
 obtain ⟨a1,c1,e1,k1⟩:=Cel.of_owns h.out
 obtain ⟨a2,c2,e2,k2⟩:=Cel.of_owns h.gon
 cases e1
 cases e2
 refine ⟨_,_,_,_,s.rows,rfl,by rw [l2],k1,l1,k2,?_⟩
 intro i hi
 have hr:=h.row i
 have hi2:i<s.rows.length:=by rw [l1];exact hi
 have eO:s.c.O.getD i []=s.c.O[i]:=by rw [List.getD_eq_getElem?_getD,List.getElem?_eq_getElem hi];rfl
 have eR:s.rows.getD i nilV=s.rows[i]:=by rw [List.getD_eq_getElem?_getD,List.getElem?_eq_getElem hi2];rfl
 rw [eO,eR] at hr
 obtain ⟨a,c,e,k⟩:=Cel.of_owns hr
 exact ⟨a,c,by rw [List.getElem?_eq_getElem hi2,e],k⟩
end Go.Proofs.YtkdomobedfhhgaaGreat
end
