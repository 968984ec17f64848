/- Walk of package simple: the inner function of Each. -/
import Derived.Test.YteaaapdjplbljaaProg
import Derived.Test.YteaaapdjplbljaaVa28
import Derived.Lib.AppendZeros
import Derived.Deep.Cut
set_option linter.unusedVariables false
set_option linter.unusedSimpArgs false
set_option linter.unnecessarySimpa false
namespace Go.Proofs.Yteaaapdjplbljaa.Sm
open Go Go.Proofs Go.RowKit Go.Shelf Go.Proofs.Yteaaapdjplbljaa Go.Proofs.Yteaaapdjplbljaa.Ad Go.Proofs.Yteaaapdjplbljaa.Hp Go.Proofs.Yteaaapdjplbljaa.Ch
attribute [local go_sem] Oper.semAt_some
structure SmF (K:SmK) (Kp Pr:Nat→Prop) (W:World) (z v:Nat) (met row:List Int) (rv:Value) (w:Int) (Pr':Nat→Prop) (Wx:World):Prop where
 con:K.Con Wx Pr'
 st:K.St Wx met
 own:Wx.ownsRow K.B 3 1 rv row.length (row.map encI)
 off:OffX (K.X Kp Pr rv) W Wx
 pr:∀k,Pr' k→Pr k∨z+2≤k
 c0:Wx.cell? ⟨W.heap.size,0,none⟩=some (.int .i64 (v:Int))
 c1:Wx.cell? ⟨W.heap.size+1,0,none⟩=some rv
 c2:Wx.cell? ⟨W.heap.size+1,1,none⟩=some (.int .u64 w)
 c3:∃b,Wx.cell? ⟨W.heap.size+1+1,0,none⟩=some (.bool b)
 c4:Wx.frozen? ⟨W.heap.size+1+1,0,none⟩=false
 sz:z≤Wx.heap.size
structure SmW (K:SmK) (Pr:Nat→Prop) (W:World) (z:Nat) (rv:Value):Prop where
 lt:∀k,K.C k→k<W.heap.size
 mm:K.M<W.heap.size
 ow:∀k,rv.ownBlock=some k→¬Pr k∧k≠K.M∧¬K.C k∧k<W.heap.size
 pb:∀k,Pr k→k<W.heap.size
 z3:W.heap.size+3≤z
theorem SmF.turn {K:SmK} {Kp Pr:Nat→Prop} {W:World} {z v:Nat} {met row:List Int} {rv:Value} {w:Int} {Pr':Nat→Prop} {Wx Wy:World} {Y:Nat→Prop} (h:SmF K Kp Pr W z v met row rv w Pr' Wx) (hW:SmW K Pr W z rv) (ho:OffX Y Wx Wy) (hY:∀k,Y k→z≤k):SmF K Kp Pr W z v met row rv w Pr' Wy:=by
 have hz:=hW.z3
 have hn:∀k,k<z→¬Y k:=fun k hk e=>by have:=hY k e;omega
 refine ⟨h.con.kept (fun k hk=>ho.block k (by have:=h.sz;have:=hW.lt k hk;omega) (hn _ (by have:=hW.lt k hk;omega))) ho.size h.con.pr h.con.mp (fun k hk=>Nat.lt_of_lt_of_le (h.con.pb k hk) ho.size),h.st.off ho (hn _ (by have:=hW.mm;omega)),
  own_off h.own ho (fun k hk=>hn _ (by have:=(hW.ow k hk).2.2.2;omega)),h.off.thenN ho (fun k hk=>.inr (by have:=hY k hk;omega)),h.pr,ho.cell h.c0 (hn _ (by simp only;omega)),ho.cell h.c1 (hn _ (by simp only;omega)),ho.cell h.c2 (hn _ (by simp only;omega)),?_,?_,Nat.le_trans h.sz ho.size⟩
 ·obtain ⟨b,hb⟩:=h.c3
  exact ⟨b,ho.cell hb (hn _ (by simp only;omega))⟩
 ·obtain ⟨b,hb⟩:=h.c3
  exact (ho.frozen (World.block_lt_of_cell? _ _ hb) (hn _ (by simp only;omega))).trans h.c4
theorem SmF.res {K:SmK} {Kp Pr:Nat→Prop} {W:World} {z v:Nat} {met row:List Int} {rv:Value} {w:Int} {Pr':Nat→Prop} {Wx:World} (h:SmF K Kp Pr W z v met row rv w Pr' Wx) (hW:SmW K Pr W z rv) (b:Bool):SmF K Kp Pr W z v met row rv w Pr' (Wx.setCell ⟨W.heap.size+1+1,0,none⟩ (.bool b)):=by
 have hz:=hW.z3
 have ho:OffX (· =W.heap.size+1+1) Wx (Wx.setCell ⟨W.heap.size+1+1,0,none⟩ (.bool b)):=.set _ rfl
 obtain ⟨b3,c3⟩:=h.c3
 refine ⟨h.con.kept (fun k hk=>ho.block k (by have:=h.sz;have:=hW.lt k hk;omega) (fun e=>by have:=hW.lt k hk;have e:k=W.heap.size+1+1:=e;omega)) ho.size h.con.pr h.con.mp (fun k hk=>Nat.lt_of_lt_of_le (h.con.pb k hk) ho.size),h.st.off ho (fun e=>by have:=hW.mm;have e:K.M=W.heap.size+1+1:=e;omega),
  own_off h.own ho (fun k hk e=>by have:=(hW.ow k hk).2.2.2;have e:k=W.heap.size+1+1:=e;omega),h.off.thenN ho (fun k hk=>.inr (by have hk:k=W.heap.size+1+1:=hk;omega)),h.pr,ho.cell h.c0 (fun e=>by have e:W.heap.size=W.heap.size+1+1:=e;omega),ho.cell h.c1 (fun e=>by have e:W.heap.size+1=W.heap.size+1+1:=e;omega),ho.cell h.c2 (fun e=>by have e:W.heap.size+1=W.heap.size+1+1:=e;omega),⟨b,World.cell?_setCell_same _ _ _ c3⟩,by rw [World.frozen?_setCell];exact h.c4,Nat.le_trans h.sz ho.size⟩
theorem steps_flat {es:List EdgeD} {v:Nat} (hes:∀e∈es,0≤e.f) (F:Nat→List RtD):(stepsE es false v).flatMap (fun x=>F x.1.toNat)=(outN es (v:Int)).flatMap F:=by
 have h:outI es false v=(outN es (v:Int)).map Int.ofNat:=idxN_out es v hes
 unfold stepsE
 rw [h,List.flatMap_map,List.flatMap_map]
 rfl
def ApR (K:SmK) (z:Nat) (rv:Value) (row:List Int) (i:Int) (v:Value) (w:World):Prop:=
 ∃g cap,v=.slice (some ⟨g,0,none⟩) (row.length+1) cap∧w.ownsRow K.B 3 1 v (row.length+1) (row.map encI++[.int .i64 i])∧w.ownsRow K.B 3 1 rv row.length (row.map encI)∧(rv.ownBlock=some g∨z≤g)∧g<w.heap.size
theorem ApR.go {K:SmK} {z:Nat} {rv:Value} {row:List Int} {i:Int} {v:Value} {w w':World} (h:ApR K z rv row i v w) (hb:Below w.heap.size w w'):ApR K z rv row i v w':=by
 obtain ⟨g,cap,e,h1,h2,h3,h4⟩:=h
 exact ⟨g,cap,e,hp_owns_go h1 hb,hp_owns_go h2 hb,h3,Nat.lt_of_lt_of_le h4 hb.size⟩
def BsR (z:Nat) (i:Int) (v:Value) (w:World):Prop:=∃g,v=.slice (some ⟨g,0,none⟩) 1 1∧z≤g∧w.cell? ⟨g,0,none⟩=some (.int .i64 i)
def grR (K:SmK) (z eb b1:Nat) (i:Int) (j:Nat) (we:Int) (mt:Bool) (rv:Value) (row:List Int) (w:Int):Nat→Value→World→Prop
 |0,v,_=>v=.slice (some ⟨K.M,0,none⟩) K.n K.n
 |1,v,_=>v=.pointer (some ⟨eb,1,none⟩)
 |2,v,_=>v=.int .i64 (j:Int)
 |3,v,_=>v=.pointer (some ⟨K.M,j,none⟩)
 |4,v,_=>v=.bool mt
 |5,v,_=>v=.bool (!mt)
 |6,v,_=>v=.bool (!mt)
 |7,v,_=>mt=false→v=.func (.func 41) #[] K.caps
 |8,v,_=>mt=false→v=.pointer (some ⟨eb,1,none⟩)
 |9,v,_=>mt=false→v=.int .i64 (j:Int)
 |10,v,_=>mt=false→v=.pointer (some ⟨b1,0,none⟩)
 |11,v,_=>mt=false→v=rv
 |12,v,_=>mt=false→v=.int .i64 i
 |13,v,w'=>mt=false→BsR z i v w'
 |14,v,w'=>mt=false→ApR K z rv row i v w'
 |15,v,_=>mt=false→v=.pointer (some ⟨b1,1,none⟩)
 |16,v,_=>mt=false→v=.int .u64 w
 |17,v,_=>mt=false→v=.pointer (some ⟨eb,2,none⟩)
 |18,v,_=>mt=false→v=.int .u64 we
 |19,v,_=>mt=false→v=.int .u64 (w+we)
 |20,v,w'=>mt=false→∃u,v=.agg #[u,.int .u64 (w+we)]∧ApR K z rv row i u w'
 |_,_,_=>True
theorem grR_go {K:SmK} {z eb b1:Nat} {i:Int} {j:Nat} {we:Int} {mt:Bool} {rv:Value} {row:List Int} {w:Int}:∀(q:Nat) (v:Value) (w1 w2:World),Below w1.heap.size w1 w2→grR K z eb b1 i j we mt rv row w q v w1→grR K z eb b1 i j we mt rv row w q v w2
 |0,_,_,_,_,h=>h
 |1,_,_,_,_,h=>h
 |2,_,_,_,_,h=>h
 |3,_,_,_,_,h=>h
 |4,_,_,_,_,h=>h
 |5,_,_,_,_,h=>h
 |6,_,_,_,_,h=>h
 |7,_,_,_,_,h=>h
 |8,_,_,_,_,h=>h
 |9,_,_,_,_,h=>h
 |10,_,_,_,_,h=>h
 |11,_,_,_,_,h=>h
 |12,_,_,_,_,h=>h
 |13,_,_,_,hb,h=>fun e=>let ⟨g,e1,e2,e3⟩:=h e;⟨g,e1,e2,cell_later hb e3⟩
 |14,_,_,_,hb,h=>fun e=>(h e).go hb
 |15,_,_,_,_,h=>h
 |16,_,_,_,_,h=>h
 |17,_,_,_,_,h=>h
 |18,_,_,_,_,h=>h
 |19,_,_,_,_,h=>h
 |20,_,_,_,hb,h=>fun e=>let ⟨u,e1,e2⟩:=h e;⟨u,e1,e2.go hb⟩
 |_+21,_,_,_,_,_=>trivial
theorem grR_off {K:SmK} {z eb b1:Nat} {i:Int} {j:Nat} {we:Int} {mt:Bool} {rv:Value} {row:List Int} {w:Int} (hz:∀k,rv.ownBlock=some k→k<z):∀(q:Nat) (v:Value) (w1 w2:World),q≠20→q≠14→OffX (fun k=>rv.ownBlock=some k) w1 w2→grR K z eb b1 i j we mt rv row w q v w1→grR K z eb b1 i j we mt rv row w q v w2
 |0,_,_,_,_,_,_,h=>h
 |1,_,_,_,_,_,_,h=>h
 |2,_,_,_,_,_,_,h=>h
 |3,_,_,_,_,_,_,h=>h
 |4,_,_,_,_,_,_,h=>h
 |5,_,_,_,_,_,_,h=>h
 |6,_,_,_,_,_,_,h=>h
 |7,_,_,_,_,_,_,h=>h
 |8,_,_,_,_,_,_,h=>h
 |9,_,_,_,_,_,_,h=>h
 |10,_,_,_,_,_,_,h=>h
 |11,_,_,_,_,_,_,h=>h
 |12,_,_,_,_,_,_,h=>h
 |13,_,_,_,_,_,ho,h=>fun e=>let ⟨g,e1,e2,e3⟩:=h e;⟨g,e1,e2,ho.cell e3 (fun h9=>by have:=hz _ h9;simp only at this;omega)⟩
 |14,_,_,_,_,h,_,_=>absurd rfl h
 |15,_,_,_,_,_,_,h=>h
 |16,_,_,_,_,_,_,h=>h
 |17,_,_,_,_,_,_,h=>h
 |18,_,_,_,_,_,_,h=>h
 |19,_,_,_,_,_,_,h=>h
 |20,_,_,_,h,_,_,_=>absurd rfl h
 |_+21,_,_,_,_,_,_,_=>trivial
theorem owns_cutS {w:World} {base size n g cap m:Nat} {e:TypeId} {xs:List Value} (h:w.ownsRow base e size (.slice (some ⟨g,0,none⟩) n cap) n xs) (hm:m≤n):w.ownsRow base e size (.slice (some ⟨g,0,none⟩) m cap) m (xs.take (m*size)):=by
 have hms:m*size≤n*size:=Nat.mul_le_mul_right _ hm
 refine ⟨by rw [List.length_take,h.1];omega,?_⟩
 rcases h.2 with ⟨e,_⟩|⟨g',cap',cur,e,h1,h2,h3,h4,h5,h6⟩
 ·cases e
 ·cases e
  refine .inr ⟨g,cap,cur,rfl,h1,h2,by omega,h4,h5,?_⟩
  rw [←h6,List.take_take,Nat.min_eq_left hms]
theorem own_backS {w w':World} {base g n cap:Nat} {e:TypeId} {v:Value} {xs ys:List Value} {x:Value} (h1:w.ownsRow base e 1 v n xs) (h2:w.ownsRow base e 1 (.slice (some ⟨g,0,none⟩) (n+1) cap) (n+1) ys) (hg:v.ownBlock=some g) (h3:w'.ownsRow base e 1 (.slice (some ⟨g,0,none⟩) (n+1) cap) (n+1) (xs++[x])):w'.ownsRow base e 1 v n xs:=by
 have hc:=owns_cutS h3 (Nat.le_succ n)
 have hl:xs.length=n*1:=h1.1
 rw [←hl,List.take_left' rfl] at hc
 rcases h1.2 with ⟨rfl,_⟩|⟨g1,c1,u1,rfl,_,k1,_,_,k2,_⟩
 ·cases hg
 obtain rfl:g1=g:=Option.some.inj hg
 rcases h2.2 with ⟨e2,_⟩|⟨g2,c2,u2,e2,_,k3,_,_,k4,_⟩
 ·cases e2
 cases e2
 rw [k1] at k3
 injection k3 with k3
 injection k3 with k5
 subst k5
 obtain rfl:c1=cap:=by omega
 exact hc
theorem one_at {w:World} {b:Nat} {x:Value} (h:w.cell? ⟨b,0,none⟩=some x):∀j u,[x][j]? =some u→w.cell? ((⟨b,0,none⟩:Addr).add j)=some u:=by
 intro j u hu
 match j with
 |0=>cases hu;exact h
 |j+1=>simp at hu
theorem grown_off {w w':World} {v:Value} (h:w.grownBy w' v.ownBlock):OffX (fun k=>v.ownBlock=some k) w w':=⟨h.os,h.tape,h.output,h.size,fun k hk hn=>h.block k hk (fun e=>hn e.symm)⟩
theorem sm_round {K:SmK} {Kp Pr:Nat→Prop} {W:World} {z v:Nat} {met row:List Int} {rv:Value} {w:Int} {Pr' Pr2:Nat→Prop} {Wx w7 w8:World} {g c:Nat} {i:Int} (hW:SmW K Pr W z rv) (h:SmF K Kp Pr W z v met row rv w Pr' Wx) (hKt:Kp K.tb) (h7:OffX (fun k=>rv.ownBlock=some k) Wx w7)
  (o7:w7.ownsRow K.B 3 1 (.slice (some ⟨g,0,none⟩) (row.length+1) c) (row.length+1) (row.map encI++[.int .i64 i])) (p7:w7.ownsRow K.B 3 1 rv row.length (row.map encI)) (t7:rv.ownBlock=some g∨Wx.heap.size≤g)
  (hpr:∀k,Pr2 k→(Pr' k∨w7.heap.size≤k)∧k<w8.heap.size) (h8:OffX (K.X Kp Pr' (.slice (some ⟨g,0,none⟩) (row.length+1) c)) w7 w8) (o8:w8.ownsRow K.B 3 1 (.slice (some ⟨g,0,none⟩) (row.length+1) c) (row.length+1) (row.map encI++[.int .i64 i])) (s8:K.St w8 met) (hzx:z+2≤Wx.heap.size):
  SmF K Kp Pr W z v met row rv w Pr2 w8∧∀k,k<Wx.heap.size→k≠K.M→¬rv.ownBlock=some k→¬(Pr' k∧¬Kp k)→w8.heap[k]? =Wx.heap[k]?:=by
 have hz:=hW.z3
 have hs7:=h7.size
 have hs8:=h8.size
 have hkeep:∀k,k<Wx.heap.size→k≠K.M→¬rv.ownBlock=some k→¬(Pr' k∧¬Kp k)→w8.heap[k]? =Wx.heap[k]?:=fun k k1 k2 k3 k4=>by
  refine (h8.block k (by omega) (fun e=>?_)).trans (h7.block k k1 k3)
  rcases e with e|e|e
  ·exact k2 e
  ·have e2:g=k:=Option.some.inj e
   subst e2
   rcases t7 with t|t
   ·exact k3 t
   ·omega
  ·exact k4 e
 have hfr:∀k,W.heap.size≤k→k<z+2→w8.heap[k]? =Wx.heap[k]?:=fun k k1 k2=>by
  refine hkeep k (by omega) (fun e=>by have:=hW.mm;omega) (fun e=>by have:=(hW.ow k e).2.2.2;omega) (fun e=>?_)
  rcases h.pr k e.1 with e1|e1
  ·have:=hW.pb k e1;omega
  ·omega
 have hC:∀k,K.C k→w8.heap[k]? =Wx.heap[k]?:=fun k hk=>by
  have h1:=hW.lt k hk
  refine hkeep k (by omega) (fun e=>h.con.mc (e▸hk)) (fun e=>(hW.ow k e).2.2.1 hk) (fun e=>?_)
  by_cases ht:k=K.tb
  ·exact e.2 (ht▸hKt)
  ·exact h.con.pr k hk ht e.1
 have hown:w8.ownsRow K.B 3 1 rv row.length (row.map encI):=by
  by_cases hg:rv.ownBlock=some g
  ·exact own_backS p7 o7 hg o8
  ·refine own_off p7 h8 (fun k hk e=>?_)
   have hb:=hW.ow k hk
   rcases e with e|e|e
   ·exact hb.2.1 e
   ·have e2:g=k:=Option.some.inj e
    exact hg (e2▸hk)
   ·rcases h.pr k e.1 with e1|e1
    ·exact hb.1 e1
    ·omega
 have hcell:∀{b j:Nat} {u:Value},W.heap.size≤b→b<z+2→Wx.cell? ⟨b,j,none⟩=some u→w8.cell? ⟨b,j,none⟩=some u:=fun {b j u} k1 k2 hc=>(World.cell?_of_block (a:=⟨b,j,none⟩) (hfr b k1 k2)).trans hc
 obtain ⟨b3,c3⟩:=h.c3
 refine ⟨⟨h.con.kept hC (by omega) (fun k hk ht h2=>?_) (fun h2=>?_) (fun k hk=>(hpr k hk).2),s8,hown,?_,fun k hk=>?_,hcell (by omega) (by omega) h.c0,hcell (by omega) (by omega) h.c1,hcell (by omega) (by omega) h.c2,⟨b3,hcell (by omega) (by omega) c3⟩,(World.frozen?_of_block (hfr _ (by simp only;omega) (by simp only;omega))).trans h.c4,by omega⟩,hkeep⟩
 ·have h1:=hW.lt k hk
  rcases (hpr k h2).1 with e|e
  ·exact h.con.pr k hk ht e
  ·omega
 ·have h1:=hW.mm
  rcases (hpr _ h2).1 with e|e
  ·exact h.con.mp e
  ·omega
 ·refine h.off.thenN (((h7.mono (Y:=fun k=>rv.ownBlock=some k∨K.X Kp Pr' (.slice (some ⟨g,0,none⟩) (row.length+1) c) k) (fun k e=>.inl e))).trans (h8.mono fun k e=>.inr e)) (fun k e=>?_)
  rcases e with e|e|e|e
  ·exact .inl (.inr (.inl e))
  ·exact .inl (.inl e)
  ·have e2:g=k:=Option.some.inj e
   subst e2
   rcases t7 with t|t
   ·exact .inl (.inr (.inl t))
   ·exact .inr (by omega)
  ·rcases h.pr k e.1 with e1|e1
   ·exact .inl (.inr (.inr ⟨e1,e.2⟩))
   ·exact .inr (by omega)
 ·rcases (hpr k hk).1 with e|e
  ·exact h.pr k e
  ·exact .inr (by omega)
set_option maxRecDepth 100000 in
set_option maxHeartbeats 8000000 in
theorem grow_any (K:SmK) (Kp:Nat→Prop) (T:List RtD) (J Jx:List RtC→(Nat→Prop)→World→Prop) (hKt:Kp K.tb) (hKp:∀k,Kp k→k<K.B) (hJ:∀pre Pr W1 W2,J pre Pr W1→OffX (fun k=>¬Pr k) W1 W2→J pre Pr W2) (hJx:∀pre Pr W1 W2,Jx pre Pr W1→OffX (fun k=>¬Pr k) W1 W2→Jx pre Pr W2) (hY:∀m,YieldOK K Kp T m J Jx):
  ∀(f v:Nat) (m0 row:List Int) (rv:Value) (w:Int) (pre:List RtC) (Pr:Nat→Prop) (W:World) (hf:m0.length+f=K.n) (hvn:v<K.n) (hd:m0.Nodup) (hm:(v:Int)∉m0) (hmn:∀x∈m0,0≤x∧x<(K.n:Int)) (hrl:row.length=m0.length) (hw:0≤w∧w≤4294967296*(row.length:Int)) (hT:pre.map (·.r)++simF K.es K.t f v (m0++[(v:Int)]) row w <+:T)
   (hK:K.Con W Pr) (hS:K.St W m0) (hO:W.ownsRow K.B 3 1 rv row.length (row.map encI)) (hsep:∀k,rv.ownBlock=some k→¬Pr k∧k≠K.M∧¬K.C k) (hJ0:J pre Pr W),
  Calls Try.prog 41 (#[.int .i64 (v:Int),.agg #[rv,.int .u64 w]]++K.caps) W (SmPost K Kp T J Jx m0 row rv pre (simF K.es K.t f v (m0++[(v:Int)]) row w) Pr W):=by
 intro f
 induction f with
 |zero=>
  intro v m0 row rv w pre Pr W hf hvn hd hm hmn
  have h1:=nodup_le K.n (m0++[(v:Int)]) (List.nodup_append.2 ⟨hd,List.nodup_cons.2 ⟨List.not_mem_nil,List.nodup_nil⟩,fun a ha b hb e=>by rw [List.mem_singleton.1 hb] at e;exact hm (e▸ha)⟩) (fun x hx=>by
   rcases List.mem_append.1 hx with hx|hx
   ·exact hmn x hx
   ·rw [List.mem_singleton.1 hx];omega)
  rw [List.length_append] at h1
  simp only [List.length_singleton] at h1
  omega
 |succ f ih=>
  intro v m0 row rv w pre Pr W hf hvn hd hm hmn hrl hw hT hK hS hO hsep hJ0
  have hnn:=hK.n1
  by_cases hvt:(v:Int)=K.t
  ·rw [hvt,simF_end] at hT ⊢
   rw [←hvt]
   exact grow_end K Kp T J Jx hKt hKp hJ hJx hY v m0 row rv w pre Pr W hvt (by omega) hT hK hS hO hsep hJ0
  rw [simF_go hvt] at hT ⊢
  have IH:=Lib.hid ih
  clear ih
  obtain ⟨V,hV⟩:∃V,V=((W.alloc (Obj.cells #[.int .i64 (v:Int)] 3)).alloc (Obj.cells #[rv,.int .u64 w] 39)).alloc (Obj.cells #[.bool false] 4):=⟨_,rfl⟩
  have hbV:Below W.heap.size W V:=by rw [hV];exact ((Below.of_al _ _).al _).al _
  have hzV:V.heap.size=W.heap.size+3:=by rw [hV];simp
  have x0:V.cell? ⟨W.heap.size,0,none⟩=some (.int .i64 (v:Int)):=by rw [hV];go_simp
  have x1:V.cell? ⟨W.heap.size+1,0,none⟩=some rv:=by rw [hV];go_simp
  have x2:V.cell? ⟨W.heap.size+1,1,none⟩=some (.int .u64 w):=by rw [hV];go_simp
  have x3:V.cell? ⟨W.heap.size+1+1,0,none⟩=some (.bool false):=by rw [hV];go_simp
  have x4:V.frozen? ⟨W.heap.size+1+1,0,none⟩=false:=by rw [hV];go_simp
  have HKV:=Lib.hid (hK.go hbV)
  have hSV:K.St V m0:=hS.off (X:=fun _=>False) (.of_below hbV) (fun h=>h)
  have hcm:=hSV.cell hvn
  have hcf:=World.ownsRow.frozenAt hSV v
  have HSV:=Lib.hid hSV
  have HOV:=Lib.hid (hp_owns_go hO hbV)
  have HJV:=Lib.hid (hJ _ _ _ _ hJ0 (.of_below hbV))
  have HBV:=Lib.hid hbV
  have HZV:=Lib.hid hzV
  have HV:=Lib.hid hV
  have HPB:=Lib.hid hK.pb
  have HLT:=Lib.hid hK.lt
  have HMM:=Lib.hid (show K.M<W.heap.size from SmK.St.lt hS)
  have HVT:=Lib.hid hvt
  have HTT:=Lib.hid hT
  have HMP:=Lib.hid hK.mp
  have HOWL:=Lib.hid (fun k (hk:rv.ownBlock=some k)=>show k<W.heap.size from (hO.lt k hk).2)
  have HFF:=Lib.hid hf
  have HDD:=Lib.hid hd
  have HMN:=Lib.hid hmn
  have HNM:=Lib.hid hm
  have hvt2:((v:Int)==K.t)=false:=by simpa using hvt
  have hvi:(v:Int)<(K.n:Int):=by omega
  have hv0:(0:Int)≤(v:Int):=by omega
  clear hV hbV hzV hK hS hO hJ0 hSV hvt hT hf hd hmn hm
  refine (callsIn_wide (n:=4)).1 (callsIn_of_wp_marks Try.func41 rfl trivial (wpIn_wide.2 ?_) rfl)
  unfold SmK.caps
  simp only [Try.ntmps41,List.size_toArray,List.length_cons,List.length_nil,Nat.reduceAdd,Nat.reduceSub,Array.replicate_succ,Array.replicate_zero,List.push_toArray,List.append_toArray,List.nil_append,List.cons_append]
  go_upto_region 1 with (fail)
  rw [←HV.out]
  have ct:=HKV.out.ct
  have cm:=HKV.out.cm
  have ca:=HKV.out.ca
  have hmf:∀(fn:Fn) (first cap:Array Value) (w:World),(Instr.makeFunc fn first cap).run Try.prog w=.ok (.func fn first cap) w:=fun _ _ _ _=>rfl
  go_upto_region 5 with (fail)
  obtain ⟨V1,hV1⟩:∃V1,V1=V.setCell ⟨K.M,v,none⟩ (.bool true):=⟨_,rfl⟩
  rw [←hV1]
  have ho1:OffX (· =K.M) V V1:=by rw [hV1];exact .set _ rfl
  have hmc:=HKV.out.mc
  have HK1:=Lib.hid (HKV.out.kept (fun k hk=>ho1.block k (by have:=HLT.out k hk;have:=HZV.out;omega) (fun e=>hmc (e▸hk))) ho1.size HKV.out.pr HKV.out.mp (fun k hk=>Nat.lt_of_lt_of_le (HKV.out.pb k hk) ho1.size))
  have HS1:=Lib.hid (show K.St V1 (m0++[(v:Int)]) by
   rw [hV1]
   exact HSV.out.put (fun j hj=>by simp;omega) (by simp))
  have hne:∀k,W.heap.size≤k→¬k=K.M:=fun k hk e=>by have:=HMM.out;omega
  have a0:=ho1.cell x0 (hne _ (by simp))
  have a1:=ho1.cell x1 (hne _ (by simp))
  have a2:=ho1.cell x2 (hne _ (by simp))
  have a3:=ho1.cell x3 (hne _ (by simp only;omega))
  have a4:=(ho1.frozen (World.block_lt_of_cell? _ _ x3) (hne _ (by simp only;omega))).trans x4
  have HO1:=Lib.hid (own_off HOV.out ho1 (fun k hk e=>(hsep k hk).2.1 e))
  have HJ1:=Lib.hid (hJ _ _ _ _ HJV.out (ho1.mono fun k e=>by rw [show k=K.M from e];exact HMP.out))
  have HX1:=Lib.hid (show OffX (K.X Kp Pr rv) W V1 from ((OffX.of_below HBV.out).trans (ho1.mono fun k e=>.inl e)))
  have HZ1:=Lib.hid (show V1.heap.size=W.heap.size+3 by rw [hV1];simpa [World.setCell] using HZV.out)
  have ca:=HK1.out.ca
  clear x0 x1 x2 x3 x4 ct cm hcm hcf hV1 ho1 hne HKV HSV HOV HJV
  have HEA:=Lib.hid (fun w=>Ad.each_any K.ab (v:Int) false w)
  go_wp2_with (go_at_call 44;refine (HEA.out _).mono ?_;rintro e w2 ⟨rfl,hb2,hz2,b0,b1,b2⟩)
  have HW:=Lib.hid (show SmW K Pr W w2.heap.size rv from ⟨HLT.out,HMM.out,fun k hk=>⟨(hsep k hk).1,(hsep k hk).2.1,(hsep k hk).2.2,HOWL.out k hk⟩,HPB.out,by have:=HZ1.out;omega⟩)
  have HI0:=Lib.hid (show SmF K Kp Pr W w2.heap.size v (m0++[(v:Int)]) row rv w Pr w2 from
   ⟨HK1.out.go hb2,HS1.out.off (X:=fun _=>False) (.of_below hb2) (fun h=>h),hp_owns_go HO1.out hb2,HX1.out.trans (.of_below hb2),fun k hk=>.inl hk,cell_later hb2 a0,cell_later hb2 a1,cell_later hb2 a2,⟨false,cell_later hb2 a3⟩,(hb2.frozen (World.block_lt_of_cell? _ _ a3)).trans a4,Nat.le_refl _⟩)
  have HJ2:=Lib.hid (hJ _ _ _ _ HJ1.out (.of_below hb2))
  have hhi:K.lo≤K.hi∨K.hi<K.lo:=by omega
  have HHI:=Lib.hid (show ∀k,K.lo≤k→k<K.hi→k<W.heap.size from fun k h1 h2=>HLT.out k (.inr (.inr (.inr (.inr (.inr ⟨h1,h2⟩))))))
  have hhw:K.hi≤w2.heap.size:=by
   have h9:=HI0.out.con.ad.ba
   have h8:=HHI.out (K.hi-1) (by omega) (by omega)
   have:=HW.out.z3
   omega
  have HSEQ:=Lib.hid (Ad.each_gives 3 (by decide) K.lo K.hi K.ab K.n K.es false v V1.heap.size w2 HI0.out.con.ad hvn (by omega) (by omega) (fun e he=>(HI0.out.con.ok e he).1) hhw (by omega) b0 b1 b2)
  have HKB:=Lib.hid (show ∀j,KpA K.lo K.hi V1.heap.size j→j<w2.heap.size from fun j h=>by
   rcases h with h|h
   ·have:=HHI.out j h.1 h.2;have:=HW.out.z3;omega
   ·omega)
  have HZ2:=Lib.hid hz2
  clear hb2 hz2 b0 b1 b2 a0 a1 a2 a3 a4 ca HEA HK1 HS1 HO1 HJ1 HX1 hhi hhw
  refine (wpIn_wide (n:=4)).1 (wpIn_rangeK rfl (by decide) (gf:=61) rfl trivial (enters_of Try.func61 (by kernel_rfl) rfl) HSEQ.out HKB.out (fun _=>rfl)
   (fun px Wx=>∃ys Pr',ys.map (·.r)=px.flatMap (fun x=>stF K.es K.t f (m0++[(v:Int)]) row w x.1.toNat)∧J (pre++ys) Pr' Wx∧SmF K Kp Pr W w2.heap.size v (m0++[(v:Int)]) row rv w Pr' Wx)
   (fun c _ Wx=>c=.ret∧∃pre' Pr',(pre'.map (·.r)) <+:T∧Jx pre' Pr' Wx∧SmF K Kp Pr W w2.heap.size v (m0++[(v:Int)]) row rv w Pr' Wx∧Wx.cell? ⟨W.heap.size+1+1,0,none⟩=some (.bool false))
   ?hI ?hIx ⟨[],Pr,rfl,by rw [List.append_nil];exact HJ2.out,HI0.out⟩
   ?a1 (fun x Wx=>Wx.alloc (Obj.cells #[.int .i64 x.2.f,.int .i64 x.2.t,.int .u64 x.2.w] 45)) (fun x Wx=>Below.of_al _ _) ?assign ?body ?done ?stop)
  case assign=>
   intro l x Wx K3 hK3
   dsimp only [encSE,encE]
   gi_wp2
   exact hK3
  case hI=>
   rintro px W1 W2 ⟨ys,Pr',h1,h2,h3⟩ ho
   have hz:=HZ1.out
   have hz2:=HZ2.out
   refine ⟨ys,Pr',h1,hJ _ _ _ _ h2 (ho.mono fun k e=>?_),h3.turn HW.out ho (fun k e=>by have e:k=w2.heap.size+1:=e;omega)⟩
   have e:k=w2.heap.size+1:=e
   intro hp
   rcases h3.pr k hp with h|h
   ·have:=HPB.out k h;omega
   ·omega
  case hIx=>
   rintro c px W1 W2 ⟨hc,pre',Pr',h1,h2,h3,h4⟩ ho
   have hz:=HZ1.out
   have hz2:=HZ2.out
   refine ⟨hc,pre',Pr',h1,hJx _ _ _ _ h2 (ho.mono fun k e=>?_),h3.turn HW.out ho (fun k e=>by have e:k=w2.heap.size+1:=e;omega),ho.cell h4 (fun e=>by have e:W.heap.size+1+1=w2.heap.size+1:=e;omega)⟩
   have e:k=w2.heap.size+1:=e
   intro hp
   rcases h3.pr k hp with h|h
   ·have:=HPB.out k h;omega
   ·omega
  case done=>
   rintro D Wx rfl ⟨ys,Pr',h1,h2,h3⟩ hmk
   rw [steps_flat (fun e he=>(h3.con.ok e he).1.1)] at h1
   have HY1:=Lib.hid h1
   have HJ3:=Lib.hid h2
   have HF:=Lib.hid h3
   have HMK:=Lib.hid hmk
   obtain ⟨b3,c3⟩:=h3.c3
   have c4:=h3.c4
   clear h1 h2 h3 hmk
   go_wp2
   try simp only [Exit.noGoto]
   have hz:=HZ1.out
   have hz2:=HZ2.out
   have hst:OffX (· =W.heap.size+1+1) Wx (Wx.setCell ⟨W.heap.size+1+1,0,none⟩ (.bool true)):=.set _ rfl
   have hne:∀k,k≠W.heap.size+1+1→¬(fun x=>x=W.heap.size+1+1) k:=fun k h e=>h e
   have hmm:=HMM.out
   have hlt:=HLT.out K.mb (.inr (.inr (.inl rfl)))
   have hnp:∀k,W.heap.size≤k→k<w2.heap.size+2→¬Pr' k:=fun k g1 g2 g3=>by
    rcases HF.out.pr k g3 with h|h
    ·have:=HPB.out k h;omega
    ·omega
   refine leaves_door K W.heap.size v m0 ((hst.block _ (Array.getElem?_eq_some_iff.1 HMK.out).1 (hne _ (by omega))).trans HMK.out) (hst.cell HF.out.con.cm (hne _ (by simp only;omega))) (HF.out.st.off hst (hne _ (by omega))) hvn HNM.out (hst.cell HF.out.c0 (hne _ (by simp only;omega))) (by omega) (by omega) (by omega) (fun W9 hs9 ho9=>⟨.bool true,?_,?_⟩)
   ·have z2:W9.cell? ⟨W.heap.size+1+1,0,none⟩=some (.bool true):=ho9.cell (World.cell?_setCell_same _ _ _ c3) (fun e=>by rcases e with e|e<;>(simp only at e;omega))
    simp [results,Try.results41,go_sem,z2]
   ·have hX:OffX (K.X Kp Pr rv) W W9:=(HF.out.off.thenN hst (fun k e=>.inr (by have e:k=W.heap.size+1+1:=e;omega))).thenN ho9 (fun k e=>by rcases e with e|e;exact .inl (.inl e);exact .inr (by omega))
    have hz9:=ho9.size
    have hz8:=hst.size
    refine ⟨Pr',fun k hk=>⟨(HF.out.pr k hk).imp id (fun h=>by omega),by have:=HF.out.con.pb k hk;omega⟩,hX,?_,hs9,.inl ⟨rfl,ys,HY1.out,?_⟩⟩
    ·refine own_off (own_off HF.out.own hst (fun k hk e=>by have:=HOWL.out k hk;omega)) ho9 (fun k hk e=>?_)
     have:=HOWL.out k hk
     rcases e with e|e
     ·exact (hsep k hk).2.1 e
     ·omega
    ·refine hJ _ _ _ _ (hJ _ _ _ _ HJ3.out (hst.mono fun k e=>?_)) (ho9.mono fun k e=>?_)
     ·exact hnp k (by omega) (by omega)
     ·rcases e with rfl|rfl
      ·exact HF.out.con.mp
      ·exact hnp _ (by omega) (by omega)
  case stop=>
   rintro D c px Wx rfl hpx ⟨rfl,pre',Pr',h1,h2,h3,h4⟩ hmk
   have HY1:=Lib.hid h1
   have HJ3:=Lib.hid h2
   have HF:=Lib.hid h3
   have HMK:=Lib.hid hmk
   have H4:=Lib.hid h4
   clear h1 h2 h3 h4 hmk
   refine wpIn_wide.2 ?_
   dsimp only
   go_wp2
   try simp only [Exit.noGoto]
   have hz:=HZ1.out
   have hz2:=HZ2.out
   have hmm:=HMM.out
   have hlt:=HLT.out K.mb (.inr (.inr (.inl rfl)))
   refine leaves_door K W.heap.size v m0 HMK.out HF.out.con.cm HF.out.st hvn HNM.out HF.out.c0 (by omega) (by omega) (by omega) (fun W9 hs9 ho9=>⟨.bool false,?_,?_⟩)
   ·have z2:W9.cell? ⟨W.heap.size+1+1,0,none⟩=some (.bool false):=ho9.cell H4.out (fun e=>by rcases e with e|e<;>(simp only at e;omega))
    simp [results,Try.results41,go_sem,z2]
   ·have hX:OffX (K.X Kp Pr rv) W W9:=HF.out.off.thenN ho9 (fun k e=>by rcases e with e|e;exact .inl (.inl e);exact .inr (by omega))
    have hz9:=ho9.size
    have hnp:∀k,W.heap.size≤k→k<w2.heap.size+2→¬Pr' k:=fun k g1 g2 g3=>by
     rcases HF.out.pr k g3 with h|h
     ·have:=HPB.out k h;omega
     ·omega
    refine ⟨Pr',fun k hk=>⟨(HF.out.pr k hk).imp id (fun h=>by omega),by have:=HF.out.con.pb k hk;omega⟩,hX,?_,hs9,.inr ⟨rfl,pre',HY1.out,?_⟩⟩
    ·refine own_off HF.out.own ho9 (fun k hk e=>?_)
     have:=HOWL.out k hk
     rcases e with e|e
     ·exact (hsep k hk).2.1 e
     ·omega
    ·refine hJx _ _ _ _ HJ3.out (ho9.mono fun k e=>?_)
     rcases e with rfl|rfl
     ·exact HF.out.con.mp
     ·exact hnp _ (by omega) (by omega)
  case body=>
   rintro l px ⟨xi,xe⟩ W0 Wx ⟨ys,Pr',h1,h2,h3⟩ hpx hsz ho
   have hxm:(xi,xe)∈stepsE K.es false v:=hpx.subset (List.mem_append_right px (List.mem_singleton.2 rfl))
   obtain ⟨i,hxi,hil,hxe⟩:∃i:Nat,xi=(i:Int)∧i<K.es.length∧xe=eE K.es i:=by
    unfold stepsE at hxm
    obtain ⟨q,hq,e⟩:=List.mem_map.1 hxm
    obtain ⟨i,rfl,hi,_⟩:=idxN_mem.1 hq
    unfold stepE at e
    cases e
    exact ⟨i,rfl,hi,by unfold eE;rw [Int.toNat_natCast]⟩
   subst hxi
   have hxo:nodeN K.n xe.f∧nodeN K.n xe.t∧1≤xe.w∧xe.w≤4294967296:=by
    rw [hxe]
    unfold eE
    rw [List.getD_eq_getElem?_getD,List.getElem?_eq_getElem hil,Option.getD_some]
    exact h3.con.ok _ (List.getElem_mem _)
   obtain ⟨j,hj⟩:∃j:Nat,xe.t=(j:Int):=⟨xe.t.toNat,by have:=hxo.2.1.1;omega⟩
   have hjn':j<K.n:=by have:=hxo.2.1.2;omega
   have hjn:(j:Int)<(K.n:Int):=by omega
   have hj0:(0:Int)≤(j:Int):=by omega
   have HST:=Lib.hid (show (px++[((i:Int),xe)]).flatMap (fun x=>stF K.es K.t f (m0++[(v:Int)]) row w x.1.toNat)=px.flatMap (fun x=>stF K.es K.t f (m0++[(v:Int)]) row w x.1.toNat)++stF K.es K.t f (m0++[(v:Int)]) row w i by
    rw [List.flatMap_append]
    simp)
   have HSF:=Lib.hid (show stF K.es K.t f (m0++[(v:Int)]) row w i=if (j:Int)∉m0++[(v:Int)] then simF K.es K.t f (j:Int) ((m0++[(v:Int)])++[(j:Int)]) (row++[(i:Int)]) (w+xe.w) else [] by
    unfold stF
    rw [←hxe,hj])
   have HPX:=Lib.hid (show (pre++ys).map (·.r)++stF K.es K.t f (m0++[(v:Int)]) row w i <+:T by
    refine List.IsPrefix.trans ?_ HTT.out
    rw [List.map_append,h1,List.append_assoc,←HST.out,←steps_flat (fun e he=>(h3.con.ok e he).1.1)]
    obtain ⟨q,hq⟩:=hpx
    refine ⟨q.flatMap (fun x=>stF K.es K.t f (m0++[(v:Int)]) row w x.1.toNat),?_⟩
    rw [List.append_assoc,←List.flatMap_append,hq])
   have hDz:w2.heap.size+1≠W0.heap.size:=by omega
   have y1:=ho.cell (p:=⟨W0.heap.size,1,none⟩) (v:=.int .i64 xe.t) (by go_simp) (fun e=>hDz (by unfold TurnK at e;exact e.symm))
   have y2:=ho.cell (p:=⟨W0.heap.size,2,none⟩) (v:=.int .u64 xe.w) (by go_simp) (fun e=>hDz (by unfold TurnK at e;exact e.symm))
   have hWx:W0.heap.size+1≤Wx.heap.size:=by have h9:=ho.size;rwa [World.size_alloc] at h9
   have hz1:=HZ1.out
   have hz2:=HZ2.out
   have ym:=h3.st.cell hjn'
   have HY1:=Lib.hid h1
   have HJ3:=Lib.hid h2
   have HF:=Lib.hid h3
   obtain ⟨xf,xt,xw⟩:=xe
   simp only at hj y1 y2 hxo HSF
   subst hj
   have hrl5:row.length≤4096:=by have:=HFF.out;omega
   have hwr:IntKind.u64.wrap (w+xw)=w+xw:=by rw [IntKind.wrap_u64];have:=hxo.2.2;omega
   have HXO:=Lib.hid hxo.2.2
   obtain ⟨ao,cap,erv,-⟩:=Cel.of_owns h3.own
   subst erv
   have HWX:=Lib.hid hWx
   have HSZ:=Lib.hid hsz
   clear h1 h2 h3 hpx ho hxm hxe hxo hDz
   cases hmt:decide ((j:Int)∈m0++[(v:Int)]) with
   |true=>
    rw [hmt] at ym
    have hmt2:(j:Int)∈m0++[(v:Int)]:=of_decide_eq_true hmt
    have HE:=Lib.hid (show stF K.es K.t f (m0++[(v:Int)]) row w i=[] by rw [HSF.out,if_neg (fun h=>h hmt2)])
    clear hmt hmt2
    gi_wp2
    refine wpIn_region_in (by kernel_rfl) (by kernel_rfl) (wpAnyIn_appX 21 _ _ rfl rfl (grR K Wx.heap.size W0.heap.size (W.heap.size+1) (i:Int) j xw true (.slice ao row.length cap) row w) 14 (by decide) (fun _=>False) (by kernel_rfl) (by kernel_rfl) (by kernel_rfl) grR_go (fun q u w1 w2 _ _ ho9 h9=>grR_go q u w1 w2 (ho9.below (Nat.le_refl _) (fun k h=>h.elim)) h9) ?hopq ?hendq)
    case hopq=>
     refine ⟨?_,?_,?_,?_,?_,?_,?_,?_,?_,?_,?_,?_,?_,?_,?_,?_,?_,?_,?_,?_,?_,trivial⟩
     ·intro act w' hbe hw0 hd ho4 KK hK
      have q0:act.tmps.getD 4 undef=.pointer (some ⟨K.mb,0,none⟩):=ho4 4 (by kernel_rfl)
      have f0:=hbe.cell HF.out.con.cm (fun h9=>h9)
      refine .inl ⟨goes_free rfl,?_⟩
      simp [Oper.wp,execOp,Oper.upon,go_sem,Act.eval,q0,f0]
      exact hK _ w' (Below.refl _ _) rfl
     ·intro act w' hbe hw0 hd ho4 KK hK
      have q0:act.tmps.getD 11 undef=.pointer (some ⟨W0.heap.size,0,none⟩):=ho4 11 (by kernel_rfl)
      refine .inl ⟨goes_free rfl,?_⟩
      simp [Oper.wp,execOp,Oper.upon,go_sem,Act.eval,q0]
      exact hK _ w' (Below.refl _ _) rfl
     ·intro act w' hbe hw0 hd ho4 KK hK
      have q0:act.tmps.getD 33 undef=.pointer (some ⟨W0.heap.size,1,none⟩):=hd 1 (by rfl)
      have f0:=hbe.cell y1 (fun h9=>h9)
      refine .inl ⟨goes_free rfl,?_⟩
      simp [Oper.wp,execOp,Oper.upon,go_sem,Act.eval,q0,f0]
      exact hK _ w' (Below.refl _ _) rfl
     ·intro act w' hbe hw0 hd ho4 KK hK
      have q0:act.tmps.getD 32 undef=.slice (some ⟨K.M,0,none⟩) K.n K.n:=hd 0 (by rfl)
      have q1:act.tmps.getD 34 undef=.int .i64 (j:Int):=hd 2 (by rfl)
      refine .inl ⟨goes_free rfl,?_⟩
      simp [Oper.wp,execOp,Oper.upon,go_sem,Act.eval,q0,q1,hjn]
      exact hK _ w' (Below.refl _ _) rfl
     ·intro act w' hbe hw0 hd ho4 KK hK
      have q0:act.tmps.getD 35 undef=.pointer (some ⟨K.M,j,none⟩):=hd 3 (by rfl)
      have f0:=hbe.cell ym (fun h9=>h9)
      refine .inl ⟨goes_free rfl,?_⟩
      simp [Oper.wp,execOp,Oper.upon,go_sem,Act.eval,q0,f0]
      exact hK _ w' (Below.refl _ _) rfl
     ·intro act w' hbe hw0 hd ho4 KK hK
      have q0:act.tmps.getD 36 undef=.bool true:=hd 4 (by rfl)
      refine .inl ⟨goes_free rfl,?_⟩
      simp [Oper.wp,execOp,Oper.upon,go_sem,Act.eval,q0]
      exact hK _ w' (Below.refl _ _) rfl
     ·intro act w' hbe hw0 hd ho4 KK hK
      have q0:act.tmps.getD 37 undef=.bool false:=hd 5 (by rfl)
      refine .inl ⟨goes_free rfl,?_⟩
      simp [Oper.wp,execOp,Oper.upon,go_sem,Act.eval,q0]
      exact hK _ w' (Below.refl _ _) rfl
     ·intro act w' hbe hw0 hd ho4 KK hK
      have g6:act.tmps.getD 38 undef=.bool false:=hd 6 (by rfl)
      exact .inr ⟨goes_no 6 true false rfl rfl g6 rfl,hK undef w' (Below.refl _ _) (fun e=>by cases e)⟩
     ·intro act w' hbe hw0 hd ho4 KK hK
      have g6:act.tmps.getD 38 undef=.bool false:=hd 6 (by rfl)
      exact .inr ⟨goes_no 6 true false rfl rfl g6 rfl,hK undef w' (Below.refl _ _) (fun e=>by cases e)⟩
     ·intro act w' hbe hw0 hd ho4 KK hK
      have g6:act.tmps.getD 38 undef=.bool false:=hd 6 (by rfl)
      exact .inr ⟨goes_no 6 true false rfl rfl g6 rfl,hK undef w' (Below.refl _ _) (fun e=>by cases e)⟩
     ·intro act w' hbe hw0 hd ho4 KK hK
      have g6:act.tmps.getD 38 undef=.bool false:=hd 6 (by rfl)
      exact .inr ⟨goes_no 6 true false rfl rfl g6 rfl,hK undef w' (Below.refl _ _) (fun e=>by cases e)⟩
     ·intro act w' hbe hw0 hd ho4 KK hK
      have g6:act.tmps.getD 38 undef=.bool false:=hd 6 (by rfl)
      exact .inr ⟨goes_no 6 true false rfl rfl g6 rfl,hK undef w' (Below.refl _ _) (fun e=>by cases e)⟩
     ·intro act w' hbe hw0 hd ho4 KK hK
      have g6:act.tmps.getD 38 undef=.bool false:=hd 6 (by rfl)
      exact .inr ⟨goes_no 6 true false rfl rfl g6 rfl,hK undef w' (Below.refl _ _) (fun e=>by cases e)⟩
     ·intro act w' hbe hw0 hd ho4 KK hK
      have g6:act.tmps.getD 38 undef=.bool false:=hd 6 (by rfl)
      exact .inr ⟨goes_no 6 true false rfl rfl g6 rfl,hK undef w' (Below.refl _ _) (fun e=>by cases e)⟩
     ·intro act w' hbe hw0 hd ho4 KK hK
      have g6:act.tmps.getD 38 undef=.bool false:=hd 6 (by rfl)
      exact .inr ⟨goes_no 6 true false rfl rfl g6 rfl,hK undef w' (OffX.refl _ _) (fun e=>by cases e)⟩
     ·intro act w' hbe hw0 hd ho4 KK hK
      have g6:act.tmps.getD 38 undef=.bool false:=hd 6 (by rfl)
      exact .inr ⟨goes_no 6 true false rfl rfl g6 rfl,hK undef w' (Below.refl _ _) (fun e=>by cases e)⟩
     ·intro act w' hbe hw0 hd ho4 KK hK
      have g6:act.tmps.getD 38 undef=.bool false:=hd 6 (by rfl)
      exact .inr ⟨goes_no 6 true false rfl rfl g6 rfl,hK undef w' (Below.refl _ _) (fun e=>by cases e)⟩
     ·intro act w' hbe hw0 hd ho4 KK hK
      have g6:act.tmps.getD 38 undef=.bool false:=hd 6 (by rfl)
      exact .inr ⟨goes_no 6 true false rfl rfl g6 rfl,hK undef w' (Below.refl _ _) (fun e=>by cases e)⟩
     ·intro act w' hbe hw0 hd ho4 KK hK
      have g6:act.tmps.getD 38 undef=.bool false:=hd 6 (by rfl)
      exact .inr ⟨goes_no 6 true false rfl rfl g6 rfl,hK undef w' (Below.refl _ _) (fun e=>by cases e)⟩
     ·intro act w' hbe hw0 hd ho4 KK hK
      have g6:act.tmps.getD 38 undef=.bool false:=hd 6 (by rfl)
      exact .inr ⟨goes_no 6 true false rfl rfl g6 rfl,hK undef w' (Below.refl _ _) (fun e=>by cases e)⟩
     ·intro act w' hbe hw0 hd ho4 KK hK
      have g6:act.tmps.getD 38 undef=.bool false:=hd 6 (by rfl)
      exact .inr ⟨goes_no 6 true false rfl rfl g6 rfl,hK undef w' (Below.refl _ _) (fun e=>by cases e)⟩
    case hendq=>
     intro vs act w7 h7 hR hact hoff hpu
     have v6:vs 6=.bool false:=hR 6 (by decide)
     have H7:=Lib.hid (h7.below (Nat.le_refl _) (fun k h=>h.elim))
     simp only [puts,dstAt,List.getElem?_cons_zero,List.getElem?_cons_succ,Option.bind_some,Option.getD_some,Act.put,List.length_cons,List.length_nil,Nat.reduceAdd,List.setIfInBounds_toArray,List.set_cons_zero,List.set_cons_succ] at hpu
     subst hpu
     clear h7 hR hact hoff
     refine .inr ⟨goes_no 6 true false rfl rfl v6 rfl,.inr ⟨goes_no 6 true false rfl rfl v6 rfl,.inl ⟨goes_free rfl,fun _ _=>trivial,?_⟩⟩⟩
     simp [Oper.semAt,execOp,go_sem,Act.eval,Act.put,v6,Oper.uponIn]
     show Exit.then _ _ Exit.normal _ _
     gi_wp2
     have hb7:=H7.out
     refine ⟨⟨hb7.size,fun k hk=>hb7.block k ?_⟩,ys,Pr',?_,hJ _ _ _ _ HJ3.out (.of_below hb7),HF.out.turn HW.out (Y:=fun _=>False) (.of_below hb7) (fun k h=>h.elim)⟩
     ·have h9:=HF.out.sz
      have h8:=HWX.out
      have h5:=HSZ.out
      rcases hk with h|h|h
      ·have:=HKB.out k h;omega
      ·omega
      ·omega
     ·rw [HST.out,HE.out,List.append_nil];exact HY1.out
   |false=>
    rw [hmt] at ym
    have hmt2:(j:Int)∉m0++[(v:Int)]:=of_decide_eq_false hmt
    have HE:=Lib.hid (show stF K.es K.t f (m0++[(v:Int)]) row w i=simF K.es K.t f (j:Int) ((m0++[(v:Int)])++[(j:Int)]) (row++[(i:Int)]) (w+xw) by rw [HSF.out,if_pos hmt2])
    clear hmt
    gi_wp2
    refine wpIn_region_in (by kernel_rfl) (by kernel_rfl) (wpAnyIn_appX 21 _ _ rfl rfl (grR K Wx.heap.size W0.heap.size (W.heap.size+1) (i:Int) j xw false (.slice ao row.length cap) row w) 14 (by decide) (fun k=>(Value.slice ao row.length cap).ownBlock=some k) (by kernel_rfl) (by kernel_rfl) (by kernel_rfl) grR_go ?hoffq ?hopq ?hendq)
    case hoffq=>
     intro q u w1 w2 hne hdp ho9 h9
     by_cases hq:q=20
     ·subst hq
      exact absurd hdp (by decide)
     ·exact grR_off (fun k hk=>by have:=HOWL.out k hk;omega) q u w1 w2 hq hne ho9 h9
    case hopq=>
     refine ⟨?_,?_,?_,?_,?_,?_,?_,?_,?_,?_,?_,?_,?_,?_,?_,?_,?_,?_,?_,?_,?_,trivial⟩
     ·intro act w' hbe hw0 hd ho4 KK hK
      have q0:act.tmps.getD 4 undef=.pointer (some ⟨K.mb,0,none⟩):=ho4 4 (by kernel_rfl)
      have f0:=hbe.cell HF.out.con.cm (fun h9=>(hsep _ h9).2.2 (.inr (.inr (.inl rfl))))
      refine .inl ⟨goes_free rfl,?_⟩
      simp [Oper.wp,execOp,Oper.upon,go_sem,Act.eval,q0,f0]
      exact hK _ w' (Below.refl _ _) rfl
     ·intro act w' hbe hw0 hd ho4 KK hK
      have q0:act.tmps.getD 11 undef=.pointer (some ⟨W0.heap.size,0,none⟩):=ho4 11 (by kernel_rfl)
      refine .inl ⟨goes_free rfl,?_⟩
      simp [Oper.wp,execOp,Oper.upon,go_sem,Act.eval,q0]
      exact hK _ w' (Below.refl _ _) rfl
     ·intro act w' hbe hw0 hd ho4 KK hK
      have q0:act.tmps.getD 33 undef=.pointer (some ⟨W0.heap.size,1,none⟩):=hd 1 (by rfl)
      have f0:=hbe.cell y1 (fun h9=>by have:=HOWL.out _ h9;simp only at this;omega)
      refine .inl ⟨goes_free rfl,?_⟩
      simp [Oper.wp,execOp,Oper.upon,go_sem,Act.eval,q0,f0]
      exact hK _ w' (Below.refl _ _) rfl
     ·intro act w' hbe hw0 hd ho4 KK hK
      have q0:act.tmps.getD 32 undef=.slice (some ⟨K.M,0,none⟩) K.n K.n:=hd 0 (by rfl)
      have q1:act.tmps.getD 34 undef=.int .i64 (j:Int):=hd 2 (by rfl)
      refine .inl ⟨goes_free rfl,?_⟩
      simp [Oper.wp,execOp,Oper.upon,go_sem,Act.eval,q0,q1,hjn]
      exact hK _ w' (Below.refl _ _) rfl
     ·intro act w' hbe hw0 hd ho4 KK hK
      have q0:act.tmps.getD 35 undef=.pointer (some ⟨K.M,j,none⟩):=hd 3 (by rfl)
      have f0:=hbe.cell ym (fun h9=>(hsep _ h9).2.1 rfl)
      refine .inl ⟨goes_free rfl,?_⟩
      simp [Oper.wp,execOp,Oper.upon,go_sem,Act.eval,q0,f0]
      exact hK _ w' (Below.refl _ _) rfl
     ·intro act w' hbe hw0 hd ho4 KK hK
      have q0:act.tmps.getD 36 undef=.bool false:=hd 4 (by rfl)
      refine .inl ⟨goes_free rfl,?_⟩
      simp [Oper.wp,execOp,Oper.upon,go_sem,Act.eval,q0]
      exact hK _ w' (Below.refl _ _) rfl
     ·intro act w' hbe hw0 hd ho4 KK hK
      have q0:act.tmps.getD 37 undef=.bool true:=hd 5 (by rfl)
      refine .inl ⟨goes_free rfl,?_⟩
      simp [Oper.wp,execOp,Oper.upon,go_sem,Act.eval,q0]
      exact hK _ w' (Below.refl _ _) rfl
     ·intro act w' hbe hw0 hd ho4 KK hK
      have g6:act.tmps.getD 38 undef=.bool true:=hd 6 (by rfl)
      have q0:act.tmps.getD 6 undef=.pointer (some ⟨K.gb,0,none⟩):=ho4 6 (by kernel_rfl)
      have f0:=hbe.cell HF.out.con.cg (fun h9=>(hsep _ h9).2.2 (.inr (.inr (.inr (.inr (.inl rfl))))))
      refine .inl ⟨goes_yes 6 true rfl rfl g6,?_⟩
      simp [Oper.wp,execOp,Oper.upon,go_sem,Act.eval,q0,f0]
      exact hK _ w' (Below.refl _ _) (fun _=>rfl)
     ·intro act w' hbe hw0 hd ho4 KK hK
      have g6:act.tmps.getD 38 undef=.bool true:=hd 6 (by rfl)
      have q0:act.tmps.getD 11 undef=.pointer (some ⟨W0.heap.size,0,none⟩):=ho4 11 (by kernel_rfl)
      refine .inl ⟨goes_yes 6 true rfl rfl g6,?_⟩
      simp [Oper.wp,execOp,Oper.upon,go_sem,Act.eval,q0]
      exact hK _ w' (Below.refl _ _) (fun _=>rfl)
     ·intro act w' hbe hw0 hd ho4 KK hK
      have g6:act.tmps.getD 38 undef=.bool true:=hd 6 (by rfl)
      have q0:act.tmps.getD 40 undef=.pointer (some ⟨W0.heap.size,1,none⟩):=hd 8 (by rfl) rfl
      have f0:=hbe.cell y1 (fun h9=>by have:=HOWL.out _ h9;simp only at this;omega)
      refine .inl ⟨goes_yes 6 true rfl rfl g6,?_⟩
      simp [Oper.wp,execOp,Oper.upon,go_sem,Act.eval,q0,f0]
      exact hK _ w' (Below.refl _ _) (fun _=>rfl)
     ·intro act w' hbe hw0 hd ho4 KK hK
      have g6:act.tmps.getD 38 undef=.bool true:=hd 6 (by rfl)
      have q0:act.tmps.getD 8 undef=.pointer (some ⟨W.heap.size+1,0,none⟩):=ho4 8 (by kernel_rfl)
      refine .inl ⟨goes_yes 6 true rfl rfl g6,?_⟩
      simp [Oper.wp,execOp,Oper.upon,go_sem,Act.eval,q0]
      exact hK _ w' (Below.refl _ _) (fun _=>rfl)
     ·intro act w' hbe hw0 hd ho4 KK hK
      have g6:act.tmps.getD 38 undef=.bool true:=hd 6 (by rfl)
      have q0:act.tmps.getD 42 undef=.pointer (some ⟨W.heap.size+1,0,none⟩):=hd 10 (by rfl) rfl
      have f0:=hbe.cell HF.out.c1 (fun h9=>by have:=HOWL.out _ h9;simp only at this;omega)
      refine .inl ⟨goes_yes 6 true rfl rfl g6,?_⟩
      simp [Oper.wp,execOp,Oper.upon,go_sem,Act.eval,q0,f0]
      exact hK _ w' (Below.refl _ _) (fun _=>rfl)
     ·intro act w' hbe hw0 hd ho4 KK hK
      have g6:act.tmps.getD 38 undef=.bool true:=hd 6 (by rfl)
      have q0:act.tmps.getD 10 undef=.int .i64 (i:Int):=ho4 10 (by kernel_rfl)
      refine .inl ⟨goes_yes 6 true rfl rfl g6,?_⟩
      simp [Oper.wp,execOp,Oper.upon,go_sem,Act.eval,q0]
      exact hK _ w' (Below.refl _ _) (fun _=>rfl)
     ·intro act w' hbe hw0 hd ho4 KK hK
      have g6:act.tmps.getD 38 undef=.bool true:=hd 6 (by rfl)
      have q0:act.tmps.getD 44 undef=.int .i64 (i:Int):=hd 12 (by rfl) rfl
      have z0:=(Array.getD_eq_getD_getElem? (xs:=act.tmps) (i:=44) (d:=undef)).symm.trans q0
      refine .inl ⟨goes_yes 6 true rfl rfl g6,?_⟩
      simp [Oper.wp,execOp,Oper.upon,go_sem,Act.eval,q0,z0]
      exact hK _ _ (Below.of_al _ _) (fun _=>⟨w'.heap.size,rfl,hbe.size,by go_simp⟩)
     ·intro act w' hbe hw0 hd ho4 KK hK
      have g6:act.tmps.getD 38 undef=.bool true:=hd 6 (by rfl)
      have q0:act.tmps.getD 43 undef=.slice ao row.length cap:=hd 11 (by rfl) rfl
      obtain ⟨b5,e5,n5,c5⟩:BsR Wx.heap.size (i:Int) (act.tmps.getD 45 undef) w':=hd 13 (by rfl) rfl
      have hb1:Below Wx.heap.size Wx w':=hw0 rfl
      obtain ⟨g6',c6,w6,r6,o6,p6,g7,t6,l6⟩:=run_appK (P:=Try.prog) 25 25 K.B 3 _ 8 elem_int Try.underlying25 (.slice ao row.length cap) row.length (row.map encI) (hp_owns_go HF.out.own hb1) ⟨b5,0,none⟩ 1 (.int .i64 (i:Int)) (one_at c5) rfl ⟨by omega,by omega,by have:=HF.out.con.sz;have:=hb1.size;omega⟩
      refine .inl ⟨goes_yes 6 true rfl rfl g6,?_⟩
      exact Lib.wp_append_run w' (.tmp 43) (.tmp 45) 25 25 rfl _ _ q0 e5 _ w6 r6 (hK _ w6 (grown_off g7) (fun _=>⟨g6',c6,rfl,o6,p6,t6.imp id (fun e=>by have:=hb1.size;omega),l6⟩))
     ·intro act w' hbe hw0 hd ho4 KK hK
      have g6:act.tmps.getD 38 undef=.bool true:=hd 6 (by rfl)
      have q0:act.tmps.getD 8 undef=.pointer (some ⟨W.heap.size+1,0,none⟩):=ho4 8 (by kernel_rfl)
      refine .inl ⟨goes_yes 6 true rfl rfl g6,?_⟩
      simp [Oper.wp,execOp,Oper.upon,go_sem,Act.eval,q0]
      exact hK _ w' (Below.refl _ _) (fun _=>rfl)
     ·intro act w' hbe hw0 hd ho4 KK hK
      have g6:act.tmps.getD 38 undef=.bool true:=hd 6 (by rfl)
      have q0:act.tmps.getD 47 undef=.pointer (some ⟨W.heap.size+1,1,none⟩):=hd 15 (by rfl) rfl
      have f0:=hbe.cell HF.out.c2 (fun h9=>by have:=HOWL.out _ h9;simp only at this;omega)
      refine .inl ⟨goes_yes 6 true rfl rfl g6,?_⟩
      simp [Oper.wp,execOp,Oper.upon,go_sem,Act.eval,q0,f0]
      exact hK _ w' (Below.refl _ _) (fun _=>rfl)
     ·intro act w' hbe hw0 hd ho4 KK hK
      have g6:act.tmps.getD 38 undef=.bool true:=hd 6 (by rfl)
      have q0:act.tmps.getD 11 undef=.pointer (some ⟨W0.heap.size,0,none⟩):=ho4 11 (by kernel_rfl)
      refine .inl ⟨goes_yes 6 true rfl rfl g6,?_⟩
      simp [Oper.wp,execOp,Oper.upon,go_sem,Act.eval,q0]
      exact hK _ w' (Below.refl _ _) (fun _=>rfl)
     ·intro act w' hbe hw0 hd ho4 KK hK
      have g6:act.tmps.getD 38 undef=.bool true:=hd 6 (by rfl)
      have q0:act.tmps.getD 49 undef=.pointer (some ⟨W0.heap.size,2,none⟩):=hd 17 (by rfl) rfl
      have f0:=hbe.cell y2 (fun h9=>by have:=HOWL.out _ h9;simp only at this;omega)
      refine .inl ⟨goes_yes 6 true rfl rfl g6,?_⟩
      simp [Oper.wp,execOp,Oper.upon,go_sem,Act.eval,q0,f0]
      exact hK _ w' (Below.refl _ _) (fun _=>rfl)
     ·intro act w' hbe hw0 hd ho4 KK hK
      have g6:act.tmps.getD 38 undef=.bool true:=hd 6 (by rfl)
      have q0:act.tmps.getD 48 undef=.int .u64 w:=hd 16 (by rfl) rfl
      have q1:act.tmps.getD 50 undef=.int .u64 xw:=hd 18 (by rfl) rfl
      refine .inl ⟨goes_yes 6 true rfl rfl g6,?_⟩
      simp [Oper.wp,execOp,Oper.upon,go_sem,Act.eval,q0,q1,hwr]
      exact hK _ w' (Below.refl _ _) (fun _=>rfl)
     ·intro act w' hbe hw0 hd ho4 KK hK
      have g6:act.tmps.getD 38 undef=.bool true:=hd 6 (by rfl)
      obtain ⟨g9,c9,q2,q3⟩:ApR K Wx.heap.size (.slice ao row.length cap) row (i:Int) (act.tmps.getD 46 undef) w':=hd 14 (by rfl) rfl
      rw [q2] at q3
      have q1:act.tmps.getD 51 undef=.int .u64 (w+xw):=hd 19 (by rfl) rfl
      have z0:=(Array.getD_eq_getD_getElem? (xs:=act.tmps) (i:=46) (d:=undef)).symm.trans q2
      have z1:=(Array.getD_eq_getD_getElem? (xs:=act.tmps) (i:=51) (d:=undef)).symm.trans q1
      refine .inl ⟨goes_yes 6 true rfl rfl g6,?_⟩
      simp [Oper.wp,execOp,Oper.upon,go_sem,Act.eval,q2,q1,z0,z1]
      exact hK _ w' (Below.refl _ _) (fun _=>⟨_,rfl,g9,c9,rfl,q3⟩)
    case hendq=>
     intro vs act w7 h7 hR hact hoff hpu
     have v6:vs 6=.bool true:=hR 6 (by decide)
     have v7:vs 7=.func (.func 41) #[] K.caps:=hR 7 (by decide) rfl
     have v9:vs 9=.int .i64 (j:Int):=hR 9 (by decide) rfl
     obtain ⟨u20,v20,g7,c7,rfl,o7,p7,t7,l7⟩:∃u,vs 20=.agg #[u,.int .u64 (w+xw)]∧ApR K Wx.heap.size (.slice ao row.length cap) row (i:Int) u w7:=hR 20 (by decide) rfl
     simp only [puts,dstAt,List.getElem?_cons_zero,List.getElem?_cons_succ,Option.bind_some,Option.getD_some,Act.put,List.length_cons,List.length_nil,Nat.reduceAdd,List.setIfInBounds_toArray,List.set_cons_zero,List.set_cons_succ] at hpu
     subst hpu
     clear hR hact hoff
     refine .inl ⟨goes_yes 6 true rfl rfl v6,fun _ _=>trivial,?_⟩
     simp [Oper.semAt,execOp,go_sem,Act.eval,v7,v9,v20,Oper.uponIn]
     have hnP:∀k,(Value.slice ao row.length cap).ownBlock=some k→¬Pr' k:=fun k hk h=>by
      rcases HF.out.pr k h with h|h
      ·exact (hsep k hk).1 h
      ·have:=HOWL.out k hk;omega
     have hmm:=HMM.out
     have hsx:=HF.out.sz
     have hwx:=HWX.out
     have hszz:=HSZ.out
     have hih:=IH.out j (m0++[(v:Int)]) (row++[(i:Int)]) (.slice (some ⟨g7,0,none⟩) (row.length+1) c7) (w+xw) (pre++ys) Pr' w7 (by rw [List.length_append,List.length_singleton];have:=HFF.out;omega) hjn'
      (List.nodup_append.2 ⟨HDD.out,List.nodup_cons.2 ⟨List.not_mem_nil,List.nodup_nil⟩,fun a ha b hb e=>by rw [List.mem_singleton.1 hb] at e;exact HNM.out (e▸ha)⟩) hmt2
      (fun x hx=>by
       rcases List.mem_append.1 hx with hx|hx
       ·exact HMN.out x hx
       ·rw [List.mem_singleton.1 hx];omega) (by simp;omega) (by have:=HXO.out;simp;omega) (by rw [←HE.out];exact HPX.out)
      (HF.out.con.kept (fun k hk=>h7.block k (by have:=HLT.out k hk;omega) (fun e=>(hsep k e).2.2 hk)) h7.size HF.out.con.pr HF.out.con.mp (fun k hk=>Nat.lt_of_lt_of_le (HF.out.con.pb k hk) h7.size))
      (HF.out.st.off h7 (fun e=>(hsep _ e).2.1 rfl)) (by rw [List.map_append,List.length_append,List.length_singleton];exact o7)
      (fun k hk=>by
       obtain rfl:g7=k:=Option.some.inj hk
       rcases t7 with t|t
       ·exact ⟨hnP _ t,(hsep _ t).2⟩
       ·exact ⟨fun h=>by have:=HF.out.con.pb _ h;omega,by omega,fun h=>by have:=HLT.out _ h;omega⟩)
      (hJ _ _ _ _ HJ3.out (h7.mono fun k hk=>hnP k hk))
     refine callsIn_wide.2 (hih.mono ?_)
     rintro e w8 ⟨Pr2,k1,k2,k3,k4,k5⟩
     rw [List.length_append,List.length_singleton,List.map_append] at k3
     obtain ⟨hF2,hkeep⟩:=sm_round HW.out HF.out hKt h7 o7 p7 t7 k1 k2 k3 k4 (by omega)
     have HF2:=Lib.hid hF2
     have hs87:=k2.size
     have hs7x:=h7.size
     have HKX:=Lib.hid (show ∀k,BodyK (KpA K.lo K.hi V1.heap.size) w2.heap.size k→w8.heap[k]? =Wx.heap[k]?∧k≠W.heap.size+1+1∧k<Wx.heap.size from fun k hk=>by
      rcases hk with (h|h)|h|h
      ·have hC:K.C k:=.inr (.inr (.inr (.inr (.inr h))))
       have hl:=HLT.out k hC
       exact ⟨hkeep k (by omega) (fun e=>HF.out.con.mc (e▸hC)) (fun e=>(hsep k e).2.2 hC) (fun e=>by
        by_cases ht:k=K.tb
        ·exact e.2 (ht▸hKt)
        ·exact HF.out.con.pr k hC ht e.1),by omega,by omega⟩
      all_goals
       refine ⟨hkeep k (by omega) (by omega) (fun e=>by have:=HOWL.out k e;omega) (fun e=>?_),by omega,by omega⟩
       rcases HF.out.pr k e.1 with h9|h9
       ·have:=HPB.out k h9;omega
       ·omega)
     have HS8:=Lib.hid (show Wx.heap.size≤w8.heap.size by omega)
     rcases k5 with ⟨rfl,ys2,e1,e2⟩|⟨rfl,pre2,e1,e2⟩
     ·have HR:=Lib.hid (And.intro e1 e2)
      clear k1 k2 k3 k4 e1 e2 hkeep hF2 hih h7 o7 p7 t7 l7
      refine .inl ⟨goes_yes 6 true rfl rfl v6,fun _ _=>trivial,?_⟩
      simp [Oper.semAt,execOp,go_sem,Act.eval,Act.put,Oper.uponIn]
      refine .inl ⟨goes_free rfl,fun _ _=>trivial,?_⟩
      simp [Oper.semAt,execOp,go_sem,Act.eval,Act.put,v6,Oper.uponIn]
      show Exit.then _ _ Exit.normal _ _
      gi_wp2
      refine ⟨⟨HS8.out,fun k hk=>(HKX.out k hk).1⟩,ys++ys2,Pr2,?_,by rw [←List.append_assoc];exact HR.out.2,HF2.out⟩
      rw [List.map_append,HY1.out,HR.out.1,HST.out,HE.out]
     ·have HR:=Lib.hid (And.intro e1 e2)
      obtain ⟨b3,c3⟩:=hF2.c3
      have c4:=hF2.c4
      clear k1 k2 k3 k4 e1 e2 hkeep hF2 hih h7 o7 p7 t7 l7
      refine .inl ⟨goes_yes 6 true rfl rfl v6,fun _ _=>trivial,?_⟩
      simp [Oper.semAt,execOp,go_sem,Act.eval,Act.put,Oper.uponIn]
      refine .inl ⟨goes_free rfl,fun _ _=>trivial,?_⟩
      simp [Oper.semAt,execOp,go_sem,Act.eval,Act.put,v6,Oper.uponIn]
      show Exit.then _ _ Exit.normal _ _
      gi_wp2
      have hst:OffX (· =W.heap.size+1+1) w8 (w8.setCell ⟨W.heap.size+1+1,0,none⟩ (.bool false)):=.set _ rfl
      have hs8:=HS8.out
      refine ⟨⟨Nat.le_trans HS8.out hst.size,fun k hk=>(hst.block k (by have:=(HKX.out k hk).2.2;omega) (HKX.out k hk).2.1).trans (HKX.out k hk).1⟩,rfl,pre2,Pr2,HR.out.1,hJx _ _ _ _ HR.out.2 (hst.mono fun k e h=>?_),HF2.out.res HW.out false,World.cell?_setCell_same _ _ _ c3⟩
      have e:k=W.heap.size+1+1:=e
      rcases HF2.out.pr k h with h9|h9
      ·have:=HPB.out k h9;omega
      ·have:=HW.out.z3;omega
end Go.Proofs.Yteaaapdjplbljaa.Sm
