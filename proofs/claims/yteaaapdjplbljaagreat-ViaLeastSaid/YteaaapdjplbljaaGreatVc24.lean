/- Parts; no condition. -/
import Derived.Test.YteaaapdjplbljaaGreatVc21
import Derived.ArgAppend
set_option linter.unusedVariables false
set_option linter.unusedSimpArgs false
set_option linter.unnecessarySimpa false
set_option maxRecDepth 100000
set_option maxHeartbeats 8000000
namespace Go.Proofs.YteaaapdjplbljaaGreat
open Go Go.Proofs Go.RowKit Go.Shelf Hp Ch
theorem An8:Gq Tryz.prog 25 Bk 1 24:=⟨by kernel_rfl,rfl,by decide⟩
theorem PB.new6 (w:World) (T:TypeId) (x0 x1 x2 x3 x4 x5:Value):PB (w.alloc (.cells #[x0,x1,x2,x3,x4,x5] T)) w.heap.size [x0,x1,x2,x3,x4,x5]:=by
 intro i x hx
 match i with
 |0=>cases hx;exact ⟨by go_simp,by go_simp⟩
 |1=>cases hx;exact ⟨by go_simp,by go_simp⟩
 |2=>cases hx;exact ⟨by go_simp,by go_simp⟩
 |3=>cases hx;exact ⟨by go_simp,by go_simp⟩
 |4=>cases hx;exact ⟨by go_simp,by go_simp⟩
 |5=>cases hx;exact ⟨by go_simp,by go_simp⟩
 |i+6=>simp at hx
def NilRows (n:Nat) (v:Value) (g:List Nat) (W:World):Prop:=∃b,v=.slice (some ⟨b,0,none⟩) n n/\g=[b]/\W.ownsRow 0 25 1 (.slice (some ⟨b,0,none⟩) n n) n (List.replicate n Bk)
theorem NilRows.go {n:Nat} {v:Value} {g:List Nat} {w w':World} (h:NilRows n v g w) (hb:Below w.heap.size w w'):NilRows n v g w':=let ⟨b,h1,h2,h3⟩:=h;⟨b,h1,h2,Af h3 hb⟩
def At0 (n:Nat) (es:List EdgeD) (R:List Int) (S:List SC) (ao ro so:Option Addr) (cap rc sc z:Nat):Nat->Value->List Nat->(Nat->Value)->World->Prop
 |0,v,_,_,_=>v=.agg #[.int .i64 (n:Int),.slice ao es.length cap]
 |1,v,_,_,W=>∃a k,v=.agg #[.int .i64 (n:Int),.slice a es.length k]/\Cel W a (Ax es)
 |2,v,_,_,_=>v=.agg #[.slice ro R.length rc,.slice so S.length sc]
 |3,v,_,_,W=>∃a1 k1 a2 k2,v=.agg #[.slice a1 R.length k1,.slice a2 S.length k2]/\Cel W a1 (R.map Aj)/\Cel W a2 (Be S)
 |4,v,_,_,_=>v=.pointer (some ⟨z,0,none⟩)
 |5,v,_,_,_=>v=.int .i64 (n:Int)
 |6,v,g,_,W=>NilRows n v g W
 |7,v,_,_,_=>v=.pointer (some ⟨z,0,none⟩)
 |8,v,_,_,_=>v=.int .i64 (n:Int)
 |9,v,g,_,W=>NilRows n v g W
 |10,v,_,vs,_=>∃x1 x2 x3 x4,vs 1=.agg #[x1,x2]/\vs 3=.agg #[x3,x4]/\v=.agg #[x1,x2,x3,x4,vs 6,vs 9]
 |11,v,g,vs,W=>∃b x1 x2 x3 x4 x5 x6,v=.pointer (some ⟨b,0,none⟩)/\g=[b]/\vs 10=.agg #[x1,x2,x3,x4,x5,x6]/\PB W b [x1,x2,x3,x4,x5,x6]
 |12,v,_,vs,_=>v=vs 11
 |_,_,_,_,_=>True
theorem Ba7 {n:Nat} {es:List EdgeD} {R:List Int} {S:List SC} {ao ro so:Option Addr} {cap rc sc z:Nat}:∀(i:Nat) (v:Value) (g:List Nat) (vs:Nat->Value) (w w':World),Below w.heap.size w w'->At0 n es R S ao ro so cap rc sc z i v g vs w->At0 n es R S ao ro so cap rc sc z i v g vs w'
 |0,_,_,_,_,_,_,h|2,_,_,_,_,_,_,h|4,_,_,_,_,_,_,h|5,_,_,_,_,_,_,h|7,_,_,_,_,_,_,h|8,_,_,_,_,_,_,h|10,_,_,_,_,_,_,h|12,_,_,_,_,_,_,h=>h
 |1,_,_,_,_,_,hb,h=>let ⟨a,k,h1,h2⟩:=h;⟨a,k,h1,h2.go hb⟩
 |3,_,_,_,_,_,hb,h=>let ⟨a,k,a2,k2,h1,h2,h3⟩:=h;⟨a,k,a2,k2,h1,h2.go hb,h3.go hb⟩
 |6,_,_,_,_,_,hb,h=>NilRows.go h hb
 |9,_,_,_,_,_,hb,h=>NilRows.go h hb
 |11,_,_,_,_,_,hb,h=>let ⟨b,x1,x2,x3,x4,x5,x6,h1,h2,h3,h4⟩:=h;⟨b,x1,x2,x3,x4,x5,x6,h1,h2,h3,h4.go hb⟩
 |_+13,_,_,_,_,_,_,_=>trivial
def RowsB (W:World) (b n:Nat) (O:List (List Int)):Prop:=
 ∀u,u<n->∃(a:Option Addr) (c:Nat),W.cell? ⟨b,u,none⟩=some (.slice a (O.getD u []).length c)/\W.frozen? ⟨b,u,none⟩=false/\Cel W a ((O.getD u []).map Aj)/\(O.getD u []).length<=c/\((a=none/\c=0)\/∃k,a=some ⟨k,0,none⟩)
structure NewI (w W:World) (hb ob ib n:Nat) (es:List EdgeD) (R:List Int) (S:List SC) (O I:List (List Int)):Prop where
 c0:W.cell? ⟨hb,0,none⟩=some (.int .i64 (n:Int))
 c1:∃(a:Option Addr) (c:Nat),W.cell? ⟨hb,1,none⟩=some (.slice a es.length c)/\Cel W a (Ax es)
 c2:∃(a:Option Addr) (c:Nat),W.cell? ⟨hb,2,none⟩=some (.slice a R.length c)/\Cel W a (R.map Aj)
 c3:∃(a:Option Addr) (c:Nat),W.cell? ⟨hb,3,none⟩=some (.slice a S.length c)/\Cel W a (Be S)
 c4:W.cell? ⟨hb,4,none⟩=some (.slice (some ⟨ob,0,none⟩) n n)
 c5:W.cell? ⟨hb,5,none⟩=some (.slice (some ⟨ib,0,none⟩) n n)
 rO:RowsB W ob n O
 rI:RowsB W ib n I
 sep:hb≠ob/\hb≠ib/\ob≠ib
 ge:w.heap.size<=hb/\w.heap.size<=ob/\w.heap.size<=ib
 bel:Below w.heap.size w W
theorem RowsB.nil {W:World} {b n:Nat} (h:W.ownsRow 0 25 1 (.slice (some ⟨b,0,none⟩) n n) n (List.replicate n Bk)):RowsB W b n (List.replicate n []):=by
 intro u hu;have hz:(List.replicate n ([]:List Int)).getD u []=[]:=by
  rw [Bj1,Bm5]
  split<;>rfl
 rw [hz];refine ⟨none,0,(h.cellAt u (by omega)).trans ?_,h.frozenAt u,?_,Bi7 _,.inl ⟨rfl,rfl⟩⟩
 ·rw [Bm5,if_pos hu];rfl
 ·intro j x hx;simp at hx
def Bi3 (w:World) (n:Nat) (es:List EdgeD) (R:List Int) (S:List SC) (v:Value) (W:World):Prop:=∃hb ob ib,v=.pointer (some ⟨hb,0,none⟩)/\NewI w W hb ob ib n es R S (List.replicate n []) (List.replicate n [])
theorem Ba8 {n:Nat} {es:List EdgeD} {R:List Int} {S:List SC} {ao ro so:Option Addr} {cap rc sc z:Nat} {vs:Nat->Value} {gs:Nat->List Nat} {w W:World} (hb:Below w.heap.size w W)
  (h:∀i,i<13->At0 n es R S ao ro so cap rc sc z i (vs i) (gs i) vs W) (hg:∀i,i<13->∀k∈gs i,w.heap.size<=k) (hd:∀i j k,i<13->j<13->i≠j->k∈gs i->k∉gs j):Bi3 w n es R S (vs 12) W:=by
 obtain ⟨a1,k1,e1,f1⟩:=h 1 (by decide);obtain ⟨a2,k2,a3,k3,e3,f2,f3⟩:=h 3 (by decide);obtain ⟨ob,e6,g6,f6⟩:=h 6 (by decide);obtain ⟨ib,e9,g9,f9⟩:=h 9 (by decide);obtain ⟨x1,x2,x3,x4,q1,q3,q10⟩:=h 10 (by decide);obtain ⟨b,y1,y2,y3,y4,y5,y6,e11,g11,q11,f11⟩:=h 11 (by decide);have e12:vs 12=vs 11:=h 12 (by decide);rw [e1] at q1;rw [e3] at q3;rw [e6,e9] at q10;rw [q10] at q11
 cases q1
 cases q3
 cases q11
 have m6:ob∈gs 6:=by rw [g6];exact Bk2.2 rfl
 have m9:ib∈gs 9:=by rw [g9];exact Bk2.2 rfl
 have m11:b∈gs 11:=by rw [g11];exact Bk2.2 rfl
 refine ⟨b,ob,ib,by rw [e12,e11],(f11 0 _ rfl).1,⟨_,_,(f11 1 _ rfl).1,f1⟩,⟨_,_,(f11 2 _ rfl).1,f2⟩,⟨_,_,(f11 3 _ rfl).1,f3⟩,(f11 4 _ rfl).1,(f11 5 _ rfl).1,.nil f6,.nil f9,⟨?_,?_,?_⟩,⟨hg 11 (by decide) _ m11,hg 6 (by decide) _ m6,hg 9 (by decide) _ m9⟩,hb⟩
 ·rintro rfl;exact hd 11 6 _ (by decide) (by decide) (by decide) m11 m6
 ·rintro rfl;exact hd 11 9 _ (by decide) (by decide) (by decide) m11 m9
 ·rintro rfl;exact hd 6 9 _ (by decide) (by decide) (by decide) m6 m9
theorem Ea (W:World) (x:Value) (T:TypeId) {k:Nat} (hk:k=W.heap.size):∀(j:Nat) (u:Value),[x][j]? =some u->(W.alloc (Obj.cells #[x] T)).cell? ((⟨k,0,none⟩:Addr).add j)=some u:=by
 subst hk;exact cell_one_new W x T
theorem Df {W:World} {ao:Option Addr} {xs:List Value} {q:Addr} {a:Option Addr} {n c:Nat} (h:Cel W ao xs) (hx:∀x∈xs,∀a n c,x≠.slice a n c) (hq:W.cell? q=some (.slice a n c)) (u:Value):Cel (W.setCell q u) ao xs:=by
 intro j x hj;obtain ⟨b,o,e,hc⟩:=h j x hj;refine ⟨b,o,e,?_⟩;rw [Bj3 _ _ _ _ ?_]
 ·exact hc
 ·rintro rfl
  rw [hq] at hc
  cases hc
  exact hx _ (Bl3 hj) _ _ _ rfl
theorem Mg (R:List Int):∀x∈R.map Aj,∀a n c,x≠.slice a n c:=by
 rintro x hx a n c rfl;obtain ⟨y,_,h⟩:=List.mem_map.1 hx
 cases h
theorem Vp:∀(es:List EdgeD),∀x∈Ax es,∀a n c,x≠.slice a n c
 |[],x,h=>by cases h
 |e::es,x,h=>by
  rw [Ax] at h;simp only [Bl7] at h
  rcases h with rfl|rfl|rfl|h
  ·intro _ _ _ h;cases h
  ·intro _ _ _ h;cases h
  ·intro _ _ _ h;cases h
  ·exact Vp es x h
theorem Rh:∀(S:List SC),∀x∈Be S,∀a n c,x≠.slice a n c
 |[],x,h=>by cases h
 |e::S,x,h=>by
  rw [Be] at h
  rcases Bl8.1 h with h|h
  ·unfold Cw at h
   simp only [Bl7,List.not_mem_nil,or_false] at h
   rcases h with rfl|rfl|rfl|rfl|rfl|rfl<;>(intro _ _ _ h;cases h)
  ·exact Rh S x h
section
variable {w W W':World} {hb ob ib n:Nat} {es:List EdgeD} {R:List Int} {S:List SC} {O I:List (List Int)}
theorem RowsB.go {b:Nat} (h:RowsB W b n O) (hz:Below W.heap.size W W'):RowsB W' b n O:=fun u hu=>
 let ⟨a,c,h1,h2,h3,h4,h5⟩:=h u hu
 ⟨a,c,Bi6 hz h1,(hz.frozen (p:=⟨b,u,none⟩) (Bj5 _ _ h1)).trans h2,h3.go hz,h4,h5⟩
theorem NewI.go (h:NewI w W hb ob ib n es R S O I) (hz:Below W.heap.size W W'):NewI w W' hb ob ib n es R S O I:=by
 obtain ⟨a1,b1,h1,k1⟩:=h.c1;obtain ⟨a2,b2,h2,k2⟩:=h.c2;obtain ⟨a3,b3,h3,k3⟩:=h.c3;exact ⟨Bi6 hz h.c0,⟨a1,b1,Bi6 hz h1,k1.go hz⟩,⟨a2,b2,Bi6 hz h2,k2.go hz⟩,⟨a3,b3,Bi6 hz h3,k3.go hz⟩,Bi6 hz h.c4,Bi6 hz h.c5,h.rO.go hz,h.rI.go hz,h.sep,h.ge,h.bel.st hz⟩
theorem RowsB.other {b q f:Nat} {v:Value} {a:Option Addr} {m c:Nat} (h:RowsB W b n O) (hne:b≠q) (hq:W.cell? ⟨q,f,none⟩=some (.slice a m c)):RowsB (W.setCell ⟨q,f,none⟩ v) b n O:=fun u hu=>
 let ⟨a,c,h1,h2,h3,h4,h5⟩:=h u hu
 ⟨a,c,by rw [Bj3 _ _ _ _ (fun e=>hne (by cases e;rfl))];exact h1,by rw [Bm1];exact h2,Df h3 (Mg _) hq v,h4,h5⟩
theorem RowsB.put {b f i:Nat} {v:Value} {B:Nat} (h:RowsB W b n O) (hf:f<n) (hO:O.length=n) (hown:W.ownsRow B 3 1 v ((O.getD f []).length+1) ((O.getD f []).map Aj++[.int .i64 (i:Int)])):RowsB (W.setCell ⟨b,f,none⟩ v) b n (Fz O (f:Int) i):=by
 intro u hu;have hp:=Lc (O:=O) (v:=(f:Int)) (i:=i) (u:=u) (by omega);rw [Bj9] at hp;rw [hp];obtain ⟨a0,c0,q1,q2,q3,q4,q5⟩:=h f hf
 by_cases e:u=f
 ·subst e
  rw [if_pos rfl];have hce:=Cel.of_owns hown
  rcases hown.2 with ⟨_,h0⟩|⟨g,cap,cur,rfl,hbg,hg,hcap,_⟩
  ·omega
  ·obtain ⟨ao',cap',e1,e2⟩:=hce
   cases e1
   refine ⟨_,cap,(Bj4 _ _ _ q1).trans (by simp),by rw [Bm1];exact q2,?_,by simpa using hcap,.inr ⟨g,rfl⟩⟩;rw [Bm6];refine Df e2 ?_ q1 _;rintro x hx a n c rfl
   rcases Bl8.1 hx with hx|hx
   ·exact Mg _ _ hx a n c rfl
   ·simp at hx
 ·rw [if_neg e]
  obtain ⟨a,c,h1,h2,h3,h4,h5⟩:=h u hu;exact ⟨a,c,by rw [Bj3 _ _ _ _ (fun e'=>e (by cases e';rfl))];exact h1,by rw [Bm1];exact h2,Df h3 (Mg _) q1 v,h4,h5⟩
theorem NewI.putO {f i B:Nat} {v:Value} (h:NewI w W hb ob ib n es R S O I) (hf:f<n) (hO:O.length=n) (hown:W.ownsRow B 3 1 v ((O.getD f []).length+1) ((O.getD f []).map Aj++[.int .i64 (i:Int)])):
  NewI w (W.setCell ⟨ob,f,none⟩ v) hb ob ib n es R S (Fz O (f:Int) i) I:=by
 obtain ⟨a1,b1,h1,k1⟩:=h.c1;obtain ⟨a2,b2,h2,k2⟩:=h.c2;obtain ⟨a3,b3,h3,k3⟩:=h.c3;obtain ⟨a0,c0,q1,q2,q3,q4,q5⟩:=h.rO f hf;have hc:∀{j:Nat} {x:Value},W.cell? ⟨hb,j,none⟩=some x->(W.setCell ⟨ob,f,none⟩ v).cell? ⟨hb,j,none⟩=some x:=fun hx=>by
  rw [Bj3 _ _ _ _ (fun e=>h.sep.1 (by cases e;rfl))];exact hx
 exact ⟨hc h.c0,⟨a1,b1,hc h1,Df k1 (Vp _) q1 v⟩,⟨a2,b2,hc h2,Df k2 (Mg _) q1 v⟩,⟨a3,b3,hc h3,Df k3 (Rh _) q1 v⟩,hc h.c4,hc h.c5,h.rO.put hf hO hown,h.rI.other (fun e=>h.sep.2.2 e.symm) q1,h.sep,h.ge,h.bel.setCell h.ge.2.1 v⟩
theorem NewI.putI {f i B:Nat} {v:Value} (h:NewI w W hb ob ib n es R S O I) (hf:f<n) (hI:I.length=n) (hown:W.ownsRow B 3 1 v ((I.getD f []).length+1) ((I.getD f []).map Aj++[.int .i64 (i:Int)])):
  NewI w (W.setCell ⟨ib,f,none⟩ v) hb ob ib n es R S O (Fz I (f:Int) i):=by
 obtain ⟨a1,b1,h1,k1⟩:=h.c1;obtain ⟨a2,b2,h2,k2⟩:=h.c2;obtain ⟨a3,b3,h3,k3⟩:=h.c3;obtain ⟨a0,c0,q1,q2,q3,q4,q5⟩:=h.rI f hf;have hc:∀{j:Nat} {x:Value},W.cell? ⟨hb,j,none⟩=some x->(W.setCell ⟨ib,f,none⟩ v).cell? ⟨hb,j,none⟩=some x:=fun hx=>by
  rw [Bj3 _ _ _ _ (fun e=>h.sep.2.1 (by cases e;rfl))];exact hx
 exact ⟨hc h.c0,⟨a1,b1,hc h1,Df k1 (Vp _) q1 v⟩,⟨a2,b2,hc h2,Df k2 (Mg _) q1 v⟩,⟨a3,b3,hc h3,Df k3 (Rh _) q1 v⟩,hc h.c4,hc h.c5,h.rO.other h.sep.2.2 q1,h.rI.put hf hI hown,h.sep,h.ge,h.bel.setCell h.ge.2.2 v⟩
theorem Iu (R:List Int) (S:List SC) (n:Nat):∀k,(∀r∈(An R S n k).1,r.length<=k)/\∀r∈(An R S n k).2,r.length<=k
 |0=>by
  constructor<;>(intro r hr;have e:=List.eq_of_mem_replicate hr;subst e;exact Bi7 _)
 |k+1=>by
  obtain ⟨h1,h2⟩:=Iu R S n k;have key:∀(O:List (List Int)) (v:Int),(∀r∈O,r.length<=k)->∀r∈Fz O v k,r.length<=k+1:=by
   intro O v hO r hr
   rcases List.mem_or_eq_of_mem_set hr with hr|rfl
   ·have:=hO r hr;omega
   ·rw [Bl5]
    have:(O.getD v.toNat []).length<=k:=by
     rw [Bj1]
     rcases Nat.lt_or_ge v.toNat O.length with hl|hl
     ·rw [Bj0 hl];exact hO _ (Bj7 hl)
     ·rw [Bm2 hl];exact Bi8 _
    simpa using this
  have hstep:An R S n (k+1)=Ck R (An R S n k) (S.getD k scZ) k:=rfl;rw [hstep];unfold Ck
  split
  ·exact ⟨fun r hr=>Nat.le_succ_of_le (h1 r hr),key _ _ h2⟩
  ·exact ⟨key _ _ h1,fun r hr=>Nat.le_succ_of_le (h2 r hr)⟩
theorem NewI.hier (h:NewI w W hb ob ib n es R S O I) (hR:R.length=n) (hn:n<=60000) (hsl:S.length<=1000000) (hl:es.length<=1000000) (hO:∀r∈O,r.length<=1000000) (hI:∀r∈I,r.length<=1000000):HierM W hb n es R S O I:=by
 have key:∀{b:Nat} {L:List (List Int)},RowsB W b n L->RowsM W (.slice (some ⟨b,0,none⟩) n n) n L:=by
  intro b L hL;refine ⟨some ⟨b,0,none⟩,n,(List.range n).map (fun u=>(W.cell? ⟨b,u,none⟩).getD Bk),rfl,by simp,?_,?_⟩
  ·intro j x hj
   rw [Bk4] at hj
   rcases Nat.lt_or_ge j n with hlt|hge
   ·rw [List.getElem?_range hlt] at hj
    cases hj
    obtain ⟨a,c,q,-⟩:=hL j hlt;refine ⟨b,0,rfl,?_⟩;rw [Nat.zero_add]
    show W.cell? _=some ((W.cell? ⟨b,j,none⟩).getD Bk)
    rw [q];rfl
   ·rw [Bm2 (by simpa using hge)] at hj
    cases hj
  ·intro u hu
   obtain ⟨a,c,q1,q2,q3,-⟩:=hL u hu;refine ⟨a,c,?_,q3⟩;rw [Bk4,List.getElem?_range hu]
   show some ((W.cell? ⟨b,u,none⟩).getD Bk)=_
   rw [q1];rfl
 exact ⟨h.c0,h.c1,h.c2,h.c3,⟨_,h.c4,key h.rO⟩,⟨_,h.c5,key h.rI⟩,hR,⟨hn,hsl,hl,hO,hI⟩⟩
end
def Vz (n:Nat) (es:List EdgeD) (R:List Int) (S:List SC) (w:World) (e:Ending) (w':World):Prop:=
 ∃hb,e=.returned (.tuple #[.pointer (some ⟨hb,0,none⟩),.int .i64 0])/\HierM w' hb n es R S (An R S n S.length).1 (An R S n S.length).2/\Below w.heap.size w w'
theorem Bf1 (n:Nat) (es:List EdgeD) (R:List Int) (S:List SC) (ao ro so:Option Addr) (cap rc sc:Nat) (w:World) (hc:Cel w ao (Ax es)) (hr:Cel w ro (R.map Aj)) (hS:Cel w so (Be S)) (hn:n<=60000) (hl:es.length<=1000000) (hrl:R.length<=1000000) (hsl:S.length<=1000000) (hsc:S.length<=sc)
  (hends:∀x∈S,Aa n x.f/\Aa n x.t) (hrn:R.length=n) (hm:Tr ⟨n,es⟩ R S=(0,true)):
  Calls Tryz.prog 59 #[gV n ao es.length cap,.agg #[.slice ro R.length rc,.slice so S.length sc]] w (Vz n es R S w):=by
 obtain ⟨W,hW⟩:∃W,W=(w.alloc (Obj.cells #[.int .i64 (n:Int),.slice ao es.length cap] 24)).alloc (Obj.cells #[.slice ro R.length rc,.slice so S.length sc] 81):=⟨_,rfl⟩;have hbw:Below w.heap.size w W:=by rw [hW];exact (Below.of_al _ _).al _
 have c0:W.cell? ⟨w.heap.size,0,none⟩=some (.int .i64 (n:Int)):=by rw [hW];go_simp
 have c1:W.cell? ⟨w.heap.size,1,none⟩=some (.slice ao es.length cap):=by rw [hW];go_simp
 have d0:W.cell? ⟨w.heap.size+1,0,none⟩=some (.slice ro R.length rc):=by rw [hW];go_simp
 have d1:W.cell? ⟨w.heap.size+1,1,none⟩=some (.slice so S.length sc):=by rw [hW];go_simp
 have HMD:=Bi5 (Au0 ⟨n,es⟩ n R S ao ro so cap rc sc W (.inl rfl) (hc.go hbw) (hr.go hbw) (hS.go hbw) hl hrl hsl hsc);have HCG:=Bi5 (fun W' (hb:Below W.heap.size W W')=>Lk (n:Int) es ao cap W' ((hc.go hbw).go hb) hl);have HCH:=Bi5 (fun W' (hb:Below W.heap.size W W')=>Rs R S ro so rc sc W' ((hr.go hbw).go hb) ((hS.go hbw).go hb) hrl hsl);have HMK:=Bi5 (Hn (T:=126) Tryz.underlying126 An8 rfl n hn (by omega));have HB:=Bi5 hbw;have HS:=Bi5 (hS.go hbw);have HR:=Bi5 (hr.go hbw);have HE:=Bi5 hends;have HRN:=Bi5 hrn;unfold Vz;have HW:=Bi5 hW;rw [hm] at HMD;unfold MadePost at HMD;unfold Ol at HCG;unfold Si at HCH;clear hW hbw hc hr hS hm hends hrn
 go_enter Tryz.func59,Tryz.ntmps59
 go_upto_region 1 with (fail)
 rw [<-HW.out]
 go_upto_region 6 with (go_at_call 111;refine HMD.out.mono ?_;rintro e w1 ⟨rfl,hb1⟩;(have HB1:=Bi5 hb1);(have c0':=Bi6 hb1 c0);(have c1':=Bi6 hb1 c1);(have d0':=Bi6 hb1 d0);(have d1':=Bi6 hb1 d1);clear hb1)
 obtain ⟨z,hz⟩:∃z,z=w.heap.size:=⟨_,rfl⟩
 go_cut [8] from 14 (fun v wc=>Bi3 W n es R S v wc)
 case first=>
  rename_i J K2 hJ hK2
  refine Ez (At0 n es R S ao ro so cap rc sc w.heap.size) (by kernel_rfl) (by kernel_rfl) ?_ ?_ ?_ ?_
  case refine_1=>exact Ba7
  case refine_2=>
   intro i v g vs vs' w1 h hr
   match i with
   |0|1|2|3|4|5|6|7|8|9=>exact hr
   |10=>(have h1:=h 1 (by rfl));(have h3:=h 3 (by rfl));(have h6:=h 6 (by rfl));(have h9:=h 9 (by rfl));(show ∃_,_;rw [h1,h3,h6,h9];exact hr)
   |11=>(have h9:=h 10 (by rfl));(show ∃_,_;rw [h9];exact hr)
   |12=>(have h9:=h 11 (by rfl));(show v=_;rw [h9];exact hr)
   |i+13=>trivial
  case refine_3=>
   refine ⟨?_,?_,?_,?_,?_,?_,?_,?_,?_,?_,?_,?_,?_,trivial⟩
   ·intro vs w' hbe hd K hK
    have hm0:True:=trivial;have f0:=Bi6 hbe c0';have f1:=Bi6 hbe c1';simp only [Al,Ae,Bk7,Bk6,Bl1,Bl0,Act.put,Bk0,Bk1,Nat.reduceAdd,Bk5,Bk8,Bk9,f0,f1] at hK ⊢;simp [Oper.wp,execOp,Oper.upon,go_sem,Act.eval,Act.put,f0,f1];exact hK _ [] w' (Below.refl _ _) rfl (fun _ h=>nomatch h)
   ·intro vs w' hbe hd K hK
    have hm0:True:=trivial;have d0:=(hd 0 (by rfl)).choose_spec;have e0:vs 0=_:=d0;simp only [Al,Ae,Bk7,Bk6,Bl1,Bl0,Act.put,Bk0,Bk1,Nat.reduceAdd,Bk5,Bk8,Bk9,e0] at hK ⊢;simp [Oper.wp,execOp,Oper.upon,go_sem,Act.eval,Act.put,e0];refine (HCG.out _ (HB1.out.st hbe)).mono ?_;rintro e w4 ⟨a1,k1,rfl,h1,h2,h3⟩
    dsimp only
    exact hK _ [] w4 h2 ⟨a1,k1,rfl,h1⟩ (fun _ h=>nomatch h)
   ·intro vs w' hbe hd K hK
    have hm0:True:=trivial;have f0:=Bi6 hbe d0';have f1:=Bi6 hbe d1';simp only [Al,Ae,Bk7,Bk6,Bl1,Bl0,Act.put,Bk0,Bk1,Nat.reduceAdd,Bk5,Bk8,Bk9,f0,f1] at hK ⊢;simp [Oper.wp,execOp,Oper.upon,go_sem,Act.eval,Act.put,f0,f1];exact hK _ [] w' (Below.refl _ _) rfl (fun _ h=>nomatch h)
   ·intro vs w' hbe hd K hK
    have hm0:True:=trivial;have d2:=(hd 2 (by rfl)).choose_spec;have e2:vs 2=_:=d2;simp only [Al,Ae,Bk7,Bk6,Bl1,Bl0,Act.put,Bk0,Bk1,Nat.reduceAdd,Bk5,Bk8,Bk9,e2] at hK ⊢;simp [Oper.wp,execOp,Oper.upon,go_sem,Act.eval,Act.put,e2];refine (HCH.out _ (HB1.out.st hbe)).mono ?_;rintro e w4 ⟨a1,k1,a2,k2,rfl,h1,h2,h3,-⟩
    dsimp only
    exact hK _ [] w4 h3 ⟨a1,k1,a2,k2,rfl,h1,h2⟩ (fun _ h=>nomatch h)
   ·intro vs w' hbe hd K hK
    have hm0:True:=trivial;simp only [Al,Ae,Bk7,Bk6,Bl1,Bl0,Act.put,Bk0,Bk1,Nat.reduceAdd,Bk5,Bk8,Bk9,true_and] at hK ⊢;simp [Oper.wp,execOp,Oper.upon,go_sem,Act.eval,Act.put,true_and];exact hK _ [] w' (Below.refl _ _) rfl (fun _ h=>nomatch h)
   ·intro vs w' hbe hd K hK
    have hm0:True:=trivial;have d4:=(hd 4 (by rfl)).choose_spec;have e4:vs 4=_:=d4;have f0:=Bi6 hbe c0';simp only [Al,Ae,Bk7,Bk6,Bl1,Bl0,Act.put,Bk0,Bk1,Nat.reduceAdd,Bk5,Bk8,Bk9,e4,f0] at hK ⊢;simp [Oper.wp,execOp,Oper.upon,go_sem,Act.eval,Act.put,e4,f0];exact hK _ [] w' (Below.refl _ _) rfl (fun _ h=>nomatch h)
   ·intro vs w' hbe hd K hK
    have hm0:True:=trivial;have d5:=(hd 5 (by rfl)).choose_spec;have e5:vs 5=_:=d5;have hr:=HMK.out w';simp only [Al,Ae,Bk7,Bk6,Bl1,Bl0,Act.put,Bk0,Bk1,Nat.reduceAdd,Bk5,Bk8,Bk9,true_and] at hK ⊢;simp [Oper.wp,execOp,Oper.upon,go_sem,Act.eval,Act.put,true_and];simp only [e5] at hK ⊢;rw [hr];simp only [Result.andThen];obtain ⟨w4,hw4⟩:∃w4,w4=w'.alloc (.cells (madeCells #[Bk] n) 25):=⟨_,rfl⟩;have hsz:w4.heap.size=w'.heap.size+1:=by rw [hw4];simp
    have hsp:w4.ownsRow 0 25 1 (.slice (some ⟨w'.heap.size,0,none⟩) n n) n (List.replicate n Bk):=by rw [hw4];exact Lf _ _ n hn w'
    have hb4:Below w'.heap.size w' w4:=by rw [hw4];exact Below.of_al _ _
    rw [<-hw4];exact hK _ [w'.heap.size] w4 hb4 (show NilRows n (.slice (some ⟨w'.heap.size,0,none⟩) n n) [w'.heap.size] w4 from ⟨w'.heap.size,rfl,rfl,hsp⟩) (fun k hk=>by simp at hk;subst hk;omega)
   ·intro vs w' hbe hd K hK
    have hm0:True:=trivial;simp only [Al,Ae,Bk7,Bk6,Bl1,Bl0,Act.put,Bk0,Bk1,Nat.reduceAdd,Bk5,Bk8,Bk9,true_and] at hK ⊢;simp [Oper.wp,execOp,Oper.upon,go_sem,Act.eval,Act.put,true_and];exact hK _ [] w' (Below.refl _ _) rfl (fun _ h=>nomatch h)
   ·intro vs w' hbe hd K hK
    have hm0:True:=trivial;have d7:=(hd 7 (by rfl)).choose_spec;have e7:vs 7=_:=d7;have f0:=Bi6 hbe c0';simp only [Al,Ae,Bk7,Bk6,Bl1,Bl0,Act.put,Bk0,Bk1,Nat.reduceAdd,Bk5,Bk8,Bk9,e7,f0] at hK ⊢;simp [Oper.wp,execOp,Oper.upon,go_sem,Act.eval,Act.put,e7,f0];exact hK _ [] w' (Below.refl _ _) rfl (fun _ h=>nomatch h)
   ·intro vs w' hbe hd K hK
    have hm0:True:=trivial;have d8:=(hd 8 (by rfl)).choose_spec;have e8:vs 8=_:=d8;have hr:=HMK.out w';simp only [Al,Ae,Bk7,Bk6,Bl1,Bl0,Act.put,Bk0,Bk1,Nat.reduceAdd,Bk5,Bk8,Bk9,true_and] at hK ⊢;simp [Oper.wp,execOp,Oper.upon,go_sem,Act.eval,Act.put,true_and];simp only [e8] at hK ⊢;rw [hr];simp only [Result.andThen];obtain ⟨w4,hw4⟩:∃w4,w4=w'.alloc (.cells (madeCells #[Bk] n) 25):=⟨_,rfl⟩;have hsz:w4.heap.size=w'.heap.size+1:=by rw [hw4];simp
    have hsp:w4.ownsRow 0 25 1 (.slice (some ⟨w'.heap.size,0,none⟩) n n) n (List.replicate n Bk):=by rw [hw4];exact Lf _ _ n hn w'
    have hb4:Below w'.heap.size w' w4:=by rw [hw4];exact Below.of_al _ _
    rw [<-hw4];exact hK _ [w'.heap.size] w4 hb4 (show NilRows n (.slice (some ⟨w'.heap.size,0,none⟩) n n) [w'.heap.size] w4 from ⟨w'.heap.size,rfl,rfl,hsp⟩) (fun k hk=>by simp at hk;subst hk;omega)
   ·intro vs w' hbe hd K hK
    have hm0:True:=trivial;have d1:=(hd 1 (by rfl)).choose_spec;have d3:=(hd 3 (by rfl)).choose_spec;have d6:=(hd 6 (by rfl)).choose_spec;have d9:=(hd 9 (by rfl)).choose_spec;obtain ⟨a1,k1,e1,-⟩:=d1;obtain ⟨a2,k2,a3,k3,e3,-⟩:=d3;obtain ⟨b6,e6,-⟩:=d6;obtain ⟨b9,e9,-⟩:=d9;simp only [Al,Ae,Bk7,Bk6,Bl1,Bl0,Act.put,Bk0,Bk1,Nat.reduceAdd,Bk5,Bk8,Bk9,e1,e3,e6,e9] at hK ⊢;simp [Oper.wp,execOp,Oper.upon,go_sem,Act.eval,Act.put,e1,e3,e6,e9];exact hK _ [] w' (Below.refl _ _) ⟨_,_,_,_,e1,e3,by rw [e6,e9]⟩ (fun _ h=>nomatch h)
   ·intro vs w' hbe hd K hK
    have hm0:True:=trivial;have d10:=(hd 10 (by rfl)).choose_spec;obtain ⟨x1,x2,x3,x4,q1,q3,q10⟩:=d10;simp only [Al,Ae,Bk7,Bk6,Bl1,Bl0,Act.put,Bk0,Bk1,Nat.reduceAdd,Bk5,Bk8,Bk9,true_and] at hK ⊢;simp [Oper.wp,execOp,Oper.upon,go_sem,Act.eval,Act.put,true_and];simp only [q10] at hK ⊢;exact hK _ [w'.heap.size] _ (Below.of_al _ _) (show At0 n es R S ao ro so cap rc sc w.heap.size 11 (.pointer (some ⟨w'.heap.size,0,none⟩)) [w'.heap.size] vs _ from ⟨w'.heap.size,_,_,_,_,_,_,rfl,rfl,q10,PB.new6 _ _ _ _ _ _ _ _⟩) (fun k hk=>by simp at hk;subst hk;simp)
   ·intro vs w' hbe hd K hK
    have hm0:True:=trivial;simp only [Al,Ae,Bk7,Bk6,Bl1,Bl0,Act.put,Bk0,Bk1,Nat.reduceAdd,Bk5,Bk8,Bk9,true_and] at hK ⊢;simp [Oper.wp,execOp,Oper.upon,go_sem,Act.eval,Act.put,true_and];exact hK _ [] w' (Below.refl _ _) rfl (fun _ h=>nomatch h)
  case refine_4=>
   intro vs gs w' hb1 hR hG hN;simp only [Al,Ae,Bk7,Bk6,Bl1,Bl0,Act.put,Bk0,Bk1,Nat.reduceAdd,Bk5,Bk8,Bk9];refine hK2 _ _ ?_
   go_meet
   exact Ba8 (HB1.out.st hb1) hR (fun i hi k hk=>Bi9 HB1.out.size (hG i k hi hk).1) hN
 case rest=>
  obtain ⟨hb,ob,ib,rfl,hI⟩:=hcut;have d0w:=Bi6 hI.bel d0;have d1w:=Bi6 hI.bel d1;have HI:=Bi5 hI;clear hI c0' c1' d0' d1' hz
  go_wp2
  go_loopg [41] S.length (fun gm v41 wr=>∃k:Nat,k<=S.length/\S.length-k<=gm/\v41=.int .i64 k/\Aside (NewI W wr hb ob ib n es R S (An R S n k).1 (An R S n k).2))
  case atStart=>exact ⟨0,Bi8 _,by omega,rfl,HI.out⟩
  case round=>
   obtain ⟨k,hk,hg,rfl,HIr⟩:=hrel;clear d0w d1w
   by_cases hlt:k<S.length
   ·have hlt2:(k:Int)<(S.length:Int):=by omega
    have hk0:(0:Int)<=(k:Int):=by omega
    have d0w:=Bi6 HIr.out.bel d0;have d1w:=Bi6 HIr.out.bel d1;have p4:=HIr.out.c4;have p5:=HIr.out.c5;obtain ⟨sb,sf,rfl,y0,y1,y2,y3,y4,y5⟩:=Mp (HS.out.go HIr.out.bel) hlt;obtain ⟨⟨f0,f1⟩,⟨t0,t1⟩⟩:=HE.out _ (Bj7 hlt);obtain ⟨kl1,kl2⟩:=Nf R S n k;have HSM:=Bi5 (Iu R S n k);have HST:=Bi5 (show An R S n (k+1)=Ck R (An R S n k) S[k] k by rw [show An R S n (k+1)=Ck R (An R S n k) (S.getD k scZ) k from rfl,Bj1,Bj0 hlt];rfl);generalize S[k]=x at*;obtain ⟨xf,xt,xw,xe,xa,xb⟩:=x;simp only at y0 y1 y2 y3 y4 y5 f0 f1 t0 t1 HST;obtain ⟨f,rfl⟩:∃f:Nat,xf=f:=⟨xf.toNat,by omega⟩;obtain ⟨t,rfl⟩:∃t:Nat,xt=t:=⟨xt.toNat,by omega⟩;have hfn:f<n:=by omega
    have htn:t<n:=by omega
    obtain ⟨rb,rof,rfl,r1⟩:=(HR.out.go HIr.out.bel).at (i:=f) (by rw [HRN.out];exact hfn);obtain ⟨rb',rof',e',r2⟩:=(HR.out.go HIr.out.bel).at (i:=t) (by rw [HRN.out];exact htn)
    cases e'
    have hf3:(f:Int)<(R.length:Int):=by rw [HRN.out];omega
    have ht3:(t:Int)<(R.length:Int):=by rw [HRN.out];omega
    have hfl:f<R.length:=by rw [HRN.out];exact hfn
    have htl:t<R.length:=by rw [HRN.out];exact htn
    have HRf:=Bi5 (show rAt R (f:Int)=R[f] by unfold rAt;rw [Bj9,Bj1,Bj0 hfl];rfl);have HRt:=Bi5 (show rAt R (t:Int)=R[t] by unfold rAt;rw [Bj9,Bj1,Bj0 htl];rfl);generalize R[f]=rf at*;generalize R[t]=rt at*;have ha:=Below.of_al wr (Obj.cells #[.int .i64 (f:Int),.int .i64 (t:Int),.int .u64 xw,.int .i64 xe,.int .i64 xa,.int .i64 xb] 187);have HI2:=Bi5 (HIr.out.go ha);have p42:=Bi6 ha p4;have p52:=Bi6 ha p5;have d02:=Bi6 ha d0w;have r12:=Bi6 ha r1;have r22:=Bi6 ha r2;clear ha p4 p5 d0w r1 r2
    by_cases hd:rt<rf
    ·have HST2:=Bi5 (show An R S n (k+1)=((An R S n k).1,Fz (An R S n k).2 (t:Int) k) by rw [HST.out];unfold Ck Pa;rw [show decide (rAt R (t:Int)<rAt R (f:Int))=true by rw [HRf.out,HRt.out];exact decide_eq_true hd,if_pos rfl])
     obtain ⟨ra,rcp,q1,q2,q3,q4,q5⟩:=HI2.out.rI t htn;have hq6:((An R S n k).2.getD t []).length<=1000000:=by
      have hm:=HSM.out.2 ((An R S n k).2.getD t []) (by rw [Bj1,Bj0 (by omega)];exact Bj7 _);omega
     obtain ⟨i0,hi0,hz0,hsz0,hby0⟩:=info_parts Dc.1;obtain ⟨row,hrow⟩:∃row,row=(An R S n k).2.getD t []:=⟨_,rfl⟩;rw [<-hrow] at q1 q3 q4 hq6;have HROW:=Bi5 hrow;have HQ3:=Bi5 q3;clear hrow q3;have hrw:(row.length:Int)<=1000000:=by omega
     have hrw0:(0:Int)<=(row.length:Int):=by omega
     have hrw2:(row.length:Int)<=(rcp:Int):=by omega
     go_wp2
     go_quiet (fail)
     go_wp2
     go_quiet (fail)
     go_wp2
     go_quiet (fail)
     rcases q5 with ⟨rfl,rfl⟩|⟨kb,rfl⟩
     ·obtain rfl:row=[]:=List.eq_nil_of_length_eq_zero (by omega)
      go_wp2_with (at_builtin;go_must (refine wpList_append_grows _ rfl _ _ 25 rfl 3 i0 (.int .i64 0) 1 8 Tryz.underlying25 hi0 hz0 hsz0 hby0 rfl (by decide) _ _ _ ([]:List Value) rfl (fun _=>⟨rfl,rfl⟩) (by simp) (fun b hb=>nomatch hb) _ _ _ [.int .i64 (k:Int)] rfl rfl (Ea _ _ _ (by simp)) (Cr rfl) (by simp) (by unfold maxLen;omega) (by omega) ?_);intro v9 w9 hown9 hgrow9;(have HI9:=Bi5 (HI2.out.go (((below_drewN (Below.refl _ _) _).al _).st (Below.grown (Below.refl _ _) hgrow9 (Bi7 _) (fun _ h=>nomatch h)))));(obtain ⟨ga,gc,rfl,-⟩:=Cel.of_owns hown9);(have HO9:=Bi5 hown9);(obtain ⟨_,_,z1,z2,-⟩:=HI9.out.rI t htn);clear hown9 hgrow9)
      go_roundg (S.length-(k+1))
      case measure=>omega
      case rel=>exact ⟨k+1,by omega,Bi7 _,by go_num,by rw [HST2.out];exact HI9.out.putI htn kl2 (by rw [<-HROW.out];exact HO9.out)⟩
     ·go_wp2_with (at_builtin;go_must (refine wpList_append_grows _ rfl _ _ 25 rfl 3 i0 (.int .i64 0) 1 8 Tryz.underlying25 hi0 hz0 hsz0 hby0 rfl (by decide) _ _ _ (row.map Aj) rfl (fun h=>nomatch h) (by simp) (fun b hb j u hj=>by cases hb;rw [Addr.add_lit];obtain ⟨b2,o2,e2,hc2⟩:=(HQ3.out.go ((below_drewN (Below.refl _ _) _).al _)) j u hj;cases e2;exact hc2) _ _ _ [.int .i64 (k:Int)] rfl rfl (Ea _ _ _ (by simp)) (Cr rfl) (by simp) (by unfold maxLen;omega) (by omega) ?_);intro v9 w9 hown9 hgrow9;(have HI9:=Bi5 (HI2.out.go (((below_drewN (Below.refl _ _) _).al _).st (Below.grown (Below.refl _ _) hgrow9 (Bi7 _) (fun _ h=>nomatch h)))));(obtain ⟨ga,gc,rfl,-⟩:=Cel.of_owns hown9);(have HO9:=Bi5 hown9);(obtain ⟨_,_,z1,z2,-⟩:=HI9.out.rI t htn);clear hown9 hgrow9)
      go_roundg (S.length-(k+1))
      case measure=>omega
      case rel=>exact ⟨k+1,by omega,Bi7 _,by go_num,by rw [HST2.out];exact HI9.out.putI htn kl2 (by rw [<-HROW.out];exact HO9.out)⟩
    ·have HST2:=Bi5 (show An R S n (k+1)=(Fz (An R S n k).1 (f:Int) k,(An R S n k).2) by rw [HST.out];unfold Ck Pa;rw [show decide (rAt R (t:Int)<rAt R (f:Int))=false by rw [HRf.out,HRt.out];exact decide_eq_false hd,if_neg (by simp)])
     obtain ⟨ra,rcp,q1,q2,q3,q4,q5⟩:=HI2.out.rO f hfn;have hq6:((An R S n k).1.getD f []).length<=1000000:=by
      have hm:=HSM.out.1 ((An R S n k).1.getD f []) (by rw [Bj1,Bj0 (by omega)];exact Bj7 _);omega
     obtain ⟨i0,hi0,hz0,hsz0,hby0⟩:=info_parts Dc.1;obtain ⟨row,hrow⟩:∃row,row=(An R S n k).1.getD f []:=⟨_,rfl⟩;rw [<-hrow] at q1 q3 q4 hq6;have HROW:=Bi5 hrow;have HQ3:=Bi5 q3;clear hrow q3;have hrw:(row.length:Int)<=1000000:=by omega
     have hrw0:(0:Int)<=(row.length:Int):=by omega
     have hrw2:(row.length:Int)<=(rcp:Int):=by omega
     go_wp2
     go_quiet (fail)
     go_wp2
     go_quiet (fail)
     rcases q5 with ⟨rfl,rfl⟩|⟨kb,rfl⟩
     ·obtain rfl:row=[]:=List.eq_nil_of_length_eq_zero (by omega)
      go_wp2_with (at_builtin;go_must (refine wpList_append_grows _ rfl _ _ 25 rfl 3 i0 (.int .i64 0) 1 8 Tryz.underlying25 hi0 hz0 hsz0 hby0 rfl (by decide) _ _ _ ([]:List Value) rfl (fun _=>⟨rfl,rfl⟩) (by simp) (fun b hb=>nomatch hb) _ _ _ [.int .i64 (k:Int)] rfl rfl (Ea _ _ _ (by simp)) (Cr rfl) (by simp) (by unfold maxLen;omega) (by omega) ?_);intro v9 w9 hown9 hgrow9;(have HI9:=Bi5 (HI2.out.go (((below_drewN (Below.refl _ _) _).al _).st (Below.grown (Below.refl _ _) hgrow9 (Bi7 _) (fun _ h=>nomatch h)))));(obtain ⟨ga,gc,rfl,-⟩:=Cel.of_owns hown9);(have HO9:=Bi5 hown9);(obtain ⟨_,_,z1,z2,-⟩:=HI9.out.rO f hfn);clear hown9 hgrow9)
      go_roundg (S.length-(k+1))
      case measure=>omega
      case rel=>exact ⟨k+1,by omega,Bi7 _,by go_num,by rw [HST2.out];exact HI9.out.putO hfn kl1 (by rw [<-HROW.out];exact HO9.out)⟩
     ·go_wp2_with (at_builtin;go_must (refine wpList_append_grows _ rfl _ _ 25 rfl 3 i0 (.int .i64 0) 1 8 Tryz.underlying25 hi0 hz0 hsz0 hby0 rfl (by decide) _ _ _ (row.map Aj) rfl (fun h=>nomatch h) (by simp) (fun b hb j u hj=>by cases hb;rw [Addr.add_lit];obtain ⟨b2,o2,e2,hc2⟩:=(HQ3.out.go ((below_drewN (Below.refl _ _) _).al _)) j u hj;cases e2;exact hc2) _ _ _ [.int .i64 (k:Int)] rfl rfl (Ea _ _ _ (by simp)) (Cr rfl) (by simp) (by unfold maxLen;omega) (by omega) ?_);intro v9 w9 hown9 hgrow9;(have HI9:=Bi5 (HI2.out.go (((below_drewN (Below.refl _ _) _).al _).st (Below.grown (Below.refl _ _) hgrow9 (Bi7 _) (fun _ h=>nomatch h)))));(obtain ⟨ga,gc,rfl,-⟩:=Cel.of_owns hown9);(have HO9:=Bi5 hown9);(obtain ⟨_,_,z1,z2,-⟩:=HI9.out.rO f hfn);clear hown9 hgrow9)
      go_roundg (S.length-(k+1))
      case measure=>omega
      case rel=>exact ⟨k+1,by omega,Bi7 _,by go_num,by rw [HST2.out];exact HI9.out.putO hfn kl1 (by rw [<-HROW.out];exact HO9.out)⟩
   ·obtain rfl:k=S.length:=by omega
    obtain ⟨h1,h2⟩:=Iu R S n S.length
    go_wp2
    refine bodyPost_ret (v:=.tuple #[.pointer (some ⟨hb,0,none⟩),.int .i64 0]) (by simp [results,Tryz.results59,go_sem];try rfl) rfl ?_;exact ⟨hb,rfl,HIr.out.hier HRN.out hn hsl hl (fun r hr=>Bi9 (h1 r hr) hsl) (fun r hr=>Bi9 (h2 r hr) hsl),HB.out.trans (HIr.out.bel.mono HB.out.size)⟩
end Go.Proofs.YteaaapdjplbljaaGreat
