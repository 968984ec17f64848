/- Walk of slices.Contains at numbers; the memory of tour.Order's inner function. Walk of slices.Clone at numbers: a clone is one's own. Walk of tour.Order's inner function: all orders gone through. -/
import Derived.Test.YteaaapdjplbljaaGreatLyS
import Derived.Test.YteaaapdjplbljaaGreatProg
import Derived.Test.YteaaapdjplbljaaGreatLy01
import Derived.Test.YteaaapdjplbljaaGreatLy02
import Derived.Test.YteaaapdjplbljaaGreatLw39
import Derived.Test.YteaaapdjplbljaaGreatLw36
import Derived.Deep.Cut
set_option linter.unusedVariables false
set_option linter.unusedSimpArgs false
set_option linter.unnecessarySimpa false
section
namespace Go.Proofs.YteaaapdjplbljaaGreat
open Go Go.Proofs Go.RowKit Go.Shelf Go.Proofs.YteaaapdjplbljaaGreat.Hp Go.Proofs.YteaaapdjplbljaaGreat.Ch
theorem indexInt_any (l:List Int) (x:Int) (ao:Option Addr) (cap:Nat) (w:World) (hl:l.length≤9223372036854775807) (hc:Cel w ao (l.map encI)):
  Calls Tryz.prog 125 #[.slice ao l.length cap,.int .i64 x] w fun e w'=>(∃r:Int,e=.returned (.int .i64 r)∧(0≤r↔x∈l)∧-1≤r)∧w'=w:=by
 have HC:=Lib.hid hc
 clear hc
 go_enter Tryz.func125,Tryz.ntmps125
 go_wp2
 go_loopg [8] l.length (fun g i wr=>∃k:Nat,k≤l.length∧l.length-k≤g∧i=.int .i64 k∧wr=w∧Aside (∀j (h:j<l.length),j<k→l[j]≠x))
 case atStart=>exact ⟨0,Nat.zero_le _,by omega,rfl,rfl,fun j _ h=>absurd h (Nat.not_lt_zero _)⟩
 case round=>
  obtain ⟨k,hk,hg,rfl,rfl,HA⟩:=hrel
  by_cases hlt:k<l.length
  ·have hlt3:(k:Int)<(l.length:Int):=by omega
   have hk0:(0:Int)≤(k:Int):=by omega
   obtain ⟨b,o,hao,hcell⟩:=HC.out.at hlt
   subst hao
   by_cases hq:l[k]=x
   ·have HM:=Lib.hid (show x∈l from hq▸List.getElem_mem hlt)
    rw [hq] at hcell
    clear hq
    go_wp2
    go_ret
    exact ⟨⟨(k:Int),rfl,⟨fun _=>HM.out,fun _=>by omega⟩,by omega⟩,rfl⟩
   ·have HA2:=Lib.hid (fun j (h1:j<l.length) (h2:j<k+1)=>(by
     by_cases e:j=k
     ·subst e;exact hq
     ·exact HA.out j h1 (by omega):l[j]≠x))
    have hq2:(x==l[k])=false:=by rw [beq_eq_false_iff_ne];exact fun e=>hq e.symm
    have hq3:(l[k]==x)=false:=by rw [beq_eq_false_iff_ne];exact hq
    clear hq
    generalize l[k]=y at*
    go_wp2
    go_roundg (l.length-(k+1))
    case measure=>omega
    case rel=>exact ⟨k+1,by omega,by omega,by go_num,rfl,HA2.out⟩
  ·obtain rfl:k=l.length:=by omega
   have HR:=Lib.hid (show x∉l from fun hm=>by
    obtain ⟨j,hj,e⟩:=List.getElem_of_mem hm
    exact HA.out j hj hj e)
   go_wp2
   go_ret
   exact ⟨⟨-1,rfl,⟨fun h=>by omega,fun h=>absurd h HR.out⟩,Int.le_refl _⟩,rfl⟩
theorem containsInt_any (l:List Int) (x:Int) (ao:Option Addr) (cap:Nat) (w:World) (hl:l.length≤9223372036854775807) (hc:Cel w ao (l.map encI)):
  Calls Tryz.prog 68 #[.slice ao l.length cap,.int .i64 x] w fun e w'=>e=.returned (.bool (decide (x∈l)))∧w'=w:=by
 have HI:=Lib.hid (indexInt_any l x ao cap w hl hc)
 clear hc
 go_enter Tryz.func68,Tryz.ntmps68
 go_wp2_with fail
 refine HI.out.mono ?_
 rintro e w1 ⟨⟨r,rfl,hr,-⟩,rfl⟩
 by_cases hm:x∈l
 ·have h0:0≤r:=hr.2 hm
  have HD:=Lib.hid (decide_eq_true hm)
  clear hr hm
  go_wp2
  go_ret
  exact ⟨by rw [HD.out];simp [h0],rfl⟩
 ·have h0:¬0≤r:=fun h=>hm (hr.1 h)
  have HD:=Lib.hid (decide_eq_false hm)
  clear hr hm
  go_wp2
  go_ret
  exact ⟨by rw [HD.out];simp [h0],rfl⟩
structure GrK where
 lb:Nat
 sb:Nat
 fb:Nat
 bb:Nat
 gb:Nat
 ab:Nat
 ao:Nat
 sl:Value
 ac:Nat
 m:Nat
 B:Nat
 c:Nat→Nat→Int
def GrK.caps (K:GrK):Array Value:=#[.pointer (some ⟨K.lb,0,none⟩),.pointer (some ⟨K.sb,0,none⟩),.pointer (some ⟨K.fb,0,none⟩),.pointer (some ⟨K.bb,0,none⟩),.pointer (some ⟨K.gb,0,none⟩)]
structure GrK.Con (K:GrK) (w:World):Prop where
 s:w.cell? ⟨K.sb,0,none⟩=some K.sl∧∃(a:Option Addr) (n:Nat),K.sl=.slice a K.m n
 f:w.cell? ⟨K.fb,0,none⟩=some (.slice (some ⟨K.ab,K.ao,none⟩) (K.m+2) K.ac)
 g:w.cell? ⟨K.gb,0,none⟩=some (.func (.func 66) #[] K.caps)
 r:∀i,i<K.m+2→∃D,D<K.B∧D≠K.lb∧D≠K.bb∧w.cell? ⟨K.ab,K.ao+i,none⟩=some (.slice (some ⟨D,0,none⟩) (K.m+2) (K.m+2))∧∀j,j<K.m+2→w.cell? ⟨D,j,none⟩=some (.int .u64 (K.c i j))
 lt:K.lb<K.B∧K.sb<K.B∧K.fb<K.B∧K.bb<K.B∧K.gb<K.B∧K.ab<K.B
 ne:K.lb≠K.bb∧K.sb≠K.lb∧K.sb≠K.bb∧K.fb≠K.lb∧K.fb≠K.bb∧K.gb≠K.lb∧K.gb≠K.bb∧K.ab≠K.lb∧K.ab≠K.bb
 c:∀i j,i<K.m+2→j<K.m+2→0≤K.c i j∧(K.c i j=4611686018427387904∨K.c i j≤422212465065984)
 m:K.m≤20
 sz:K.B≤w.heap.size
def GrK.X (K:GrK) (k:Nat):Prop:=k=K.lb∨k=K.bb∨K.B≤k
theorem GrK.Con.off {K:GrK} {w w':World} (h:K.Con w) (ho:OffX K.X w w'):K.Con w':=by
 have hx:∀k,k<K.B→k≠K.lb→k≠K.bb→¬K.X k:=fun k h1 h2 h3 h4=>by rcases h4 with h4|h4|h4;exact h2 h4;exact h3 h4;omega
 obtain ⟨l1,l2,l3,l4,l5,l6⟩:=h.lt
 obtain ⟨n1,n2,n3,n4,n5,n6,n7,n8,n9⟩:=h.ne
 refine ⟨⟨ho.cell h.s.1 (hx _ l2 n2 n3),h.s.2⟩,ho.cell h.f (hx _ l3 n4 n5),ho.cell h.g (hx _ l5 n6 n7),fun i hi=>?_,h.lt,h.ne,h.c,h.m,Nat.le_trans h.sz ho.size⟩
 obtain ⟨D,d1,d2,d3,d4,d5⟩:=h.r i hi
 exact ⟨D,d1,d2,d3,ho.cell d4 (hx _ l6 n8 n9),fun j hj=>ho.cell (d5 j hj) (hx _ d1 d2 d3)⟩
structure GrK.St (K:GrK) (w:World) (ba:Option Addr) (bc:Nat) (st:List Nat×Int):Prop where
 l:w.cell? ⟨K.lb,0,none⟩=some (.int .u64 st.2)∧w.frozen? ⟨K.lb,0,none⟩=false
 b:w.cell? ⟨K.bb,0,none⟩=some (.slice ba st.1.length bc)∧w.frozen? ⟨K.bb,0,none⟩=false
 r:Cel w ba ((st.1.map Int.ofNat).map encI)
 n:∀x,ba=some x→K.B≤x.block∧x.block<w.heap.size
theorem GrK.St.go {K:GrK} {w w':World} {ba:Option Addr} {bc:Nat} {st:List Nat×Int} (hk:K.Con w) (h:K.St w ba bc st) (hz:Below w.heap.size w w'):K.St w' ba bc st:=by
 have h1:=World.block_lt_of_cell? _ _ h.l.1
 have h2:=World.block_lt_of_cell? _ _ h.b.1
 exact ⟨⟨cell_later hz h.l.1,(hz.frozen h1).trans h.l.2⟩,⟨cell_later hz h.b.1,(hz.frozen h2).trans h.b.2⟩,h.r.go hz,fun x hx=>⟨(h.n x hx).1,Nat.lt_of_lt_of_le (h.n x hx).2 hz.size⟩⟩
def encN (i:Nat):Value:=.int .i64 (i:Int)
theorem encN_map (l:List Nat):(l.map Int.ofNat).map encI=l.map encN:=by rw [List.map_map];rfl
def GrK.XV (K:GrK) (v:Value) (k:Nat):Prop:=k=K.lb∨k=K.bb∨v.ownBlock=some k
theorem GrK.XV.x {K:GrK} {w:World} {v:Value} {n:Nat} {xs:List Value} (hO:w.ownsRow K.B 3 1 v n xs) {k:Nat} (h:K.XV v k):K.X k:=by
 rcases h with h|h|h
 ·exact .inl h
 ·exact .inr (.inl h)
 ·rcases hO.2 with ⟨rfl,_⟩|⟨g,cap,cur,rfl,hb,_⟩
  ·cases h
  ·obtain rfl:g=k:=Option.some.inj h
   exact .inr (.inr hb)
theorem GrK.St.off {K:GrK} {X:Nat→Prop} {w w':World} {ba:Option Addr} {bc:Nat} {st:List Nat×Int} (hk:K.Con w) (h:K.St w ba bc st) (ho:OffX X w w') (hX:∀k,X k→K.B≤k∧∀x,ba=some x→k≠x.block):K.St w' ba bc st:=by
 obtain ⟨l1,l2,l3,l4,l5,l6⟩:=hk.lt
 have hf:∀(p:Addr) (v:Value),w.cell? p=some v→w.frozen? p=false→¬X p.block→w'.frozen? p=false:=fun p v h1 h2 h3=>by
  have h4:=ho.block _ (World.block_lt_of_cell? _ _ h1) h3
  unfold World.frozen? at h2 ⊢
  rw [h4];exact h2
 have n1:¬X K.lb:=fun e=>by have:=(hX _ e).1;omega
 have n2:¬X K.bb:=fun e=>by have:=(hX _ e).1;omega
 refine ⟨⟨ho.cell h.l.1 n1,hf _ _ h.l.1 h.l.2 n1⟩,⟨ho.cell h.b.1 n2,hf _ _ h.b.1 h.b.2 n2⟩,?_,fun x hx=>⟨(h.n x hx).1,Nat.lt_of_lt_of_le (h.n x hx).2 ho.size⟩⟩
 exact cel_off (n:=0) (c:=0) h.r ho (fun j hj e=>by
  cases ba with
  |none=>cases hj
  |some y=>
   obtain rfl:y.block=j:=Option.some.inj hj
   exact (hX _ e).2 y rfl rfl)
theorem own_back {w w':World} {base g n cap:Nat} {e:TypeId} {v:Value} {xs ys:List Value} {x:Value} (h1:w.ownsRow base e 1 v n xs) (h2:w.ownsRow base e 1 (.slice (some ⟨g,0,none⟩) (n+1) cap) (n+1) ys) (hg:v.ownBlock=some g) (h3:w'.ownsRow base e 1 (.slice (some ⟨g,0,none⟩) (n+1) cap) (n+1) (xs++[x])):w'.ownsRow base e 1 v n xs:=by
 have hc:=owns_cut h3 (Nat.le_succ n)
 have hl:xs.length=n*1:=h1.1
 rw [←hl,List.take_left' rfl] at hc
 rcases h1.2 with ⟨rfl,_⟩|⟨g1,c1,u1,rfl,_,k1,_,_,k2,_⟩
 ·cases hg
 obtain rfl:g1=g:=Option.some.inj hg
 rcases h2.2 with ⟨e2,_⟩|⟨g2,c2,u2,e2,_,k3,_,_,k4,_⟩
 ·cases e2
 cases e2
 rw [k1] at k3
 injection k3 with k3
 injection k3 with k5
 subst k5
 obtain rfl:c1=cap:=by omega
 exact hc
def GrPost (K:GrK) (v:Value) (so:List Nat) (st:List Nat×Int) (ba:Option Addr) (w:World) (e:Ending) (w':World):Prop:=
 e=.returned (.tuple #[])∧w'.ownsRow K.B 3 1 v so.length (so.map encN)∧OffX (K.XV v) w w'∧∃(ba':Option Addr) (bc':Nat),K.St w' ba' bc' st∧(ba'=ba∨∀x,ba'=some x→w.heap.size≤x.block)
end Go.Proofs.YteaaapdjplbljaaGreat
end
section
namespace Go.Proofs.YteaaapdjplbljaaGreat
open Go Go.Proofs Go.RowKit Go.Shelf Go.Proofs.YteaaapdjplbljaaGreat.Hp Go.Proofs.YteaaapdjplbljaaGreat.Ch
set_option maxRecDepth 100000 in
set_option maxHeartbeats 1000000 in
theorem cloneIO_any (l:List Int) (ao:Option Addr) (cap:Nat) (w:World) (h:Cel w ao (l.map encI)) (hl:l.length≤1000000):
  Calls Tryz.prog 67 #[.slice ao l.length cap] w fun e w'=>∃v,e=.returned v∧w'.ownsRow w.heap.size 3 1 v l.length (l.map encI)∧Below w.heap.size w w':=by
 by_cases hpos:0<l.length
 ·refine (Ad.cloneO_any l.length (l.map encI) ao cap w (by simp) h (by
   intro u hu
   obtain ⟨x,_,rfl⟩:=List.mem_map.1 hu
   rfl) hl hpos).mono ?_
  rintro e w' ⟨g,c,rfl,h1,h2⟩
  exact ⟨_,rfl,h1,h2⟩
 ·have hn:l=[]:=by
   cases l with
   |nil=>rfl
   |cons a r=>simp at hpos
  subst hn
  clear hpos hl
  have heq:=Lib.run_eql_slice_nil (P:=Tryz.prog) w 25 3 ao 0 cap 0 0 Tryz.underlying25
  simp only [List.length_nil]
  cases ao with
  |none=>
   simp only [Option.isNone] at heq
   clear h
   go_enter Tryz.func67,Tryz.ntmps67
   go_wp2
   go_ret
   exact ⟨_,rfl,World.ownsRow_nil _ _ _ _,Below.refl _ _⟩
  |some ad=>
   obtain ⟨gb,gof,gi⟩:=ad
   simp only [Option.isNone] at heq
   have hlit:(w.alloc (.cells #[] 3)).ownsRow w.heap.size 3 1 (.slice (some ⟨w.heap.size,0,none⟩) 0 0) 0 []:=World.ownsRow_lit (base:=w.heap.size) (e:=3) (size:=1) w #[] 0 (Nat.le_refl _) (by unfold maxLen;omega) rfl
   obtain ⟨i0,hi,hz0,hsz,hby⟩:=info_parts hp_elemi.1
   have HL:=Lib.hid hlit
   clear hlit h
   go_enter Tryz.func67,Tryz.ntmps67
   go_wp2_with (at_builtin;refine wpList_append_own _ rfl _ _ _ rfl w.heap.size 3 i0 (.int .i64 0) 1 8 Tryz.underlying25 hi hz0 hsz hby rfl (by decide) (.slice (some ⟨w.heap.size,0,none⟩) 0 0) 0 [] rfl HL.out ⟨gb,gof,gi⟩ 0 cap [] rfl rfl (fun j u hj=>by cases hj) (by simp) (by unfold maxLen;omega) (by omega) (by simp) ?_;intro v1 w1 ho1 hg1 hn1)
   have hbl:=(Below.of_al w (.cells #[] 3)).grown hg1 (by simp) (fun k hk=>(HL.out.lt k hk).1)
   rw [Nat.zero_add,List.nil_append] at ho1
   go_ret
   exact ⟨_,rfl,ho1,hbl⟩
end Go.Proofs.YteaaapdjplbljaaGreat
end
section
namespace Go.Proofs.YteaaapdjplbljaaGreat
open Go Go.Proofs Go.RowKit Go.Shelf Go.Proofs.YteaaapdjplbljaaGreat.Hp Go.Proofs.YteaaapdjplbljaaGreat.Ch Go.Proofs.YteaaapdjplbljaaGreat.To
def loopF (c:Nat→Nat→Int) (m r u:Nat) (so:List Nat) (sum:Int) (st:List Nat×Int) (i:Nat):List Nat×Int:=if i∈so then st else if c u (i+2)<4611686018427387904 then growF c m r (i+2) (so++[i]) (sum+c u (i+2)) st else st
theorem grow_no {c:Nat→Nat→Int} {m r u:Nat} {so:List Nat} {sum:Int} {st:List Nat×Int} (h:st.2≤sum):growF c m r u so sum st=st:=by cases r<;>(unfold growF;rw [if_pos h])
theorem grow_zero {c:Nat→Nat→Int} {m u:Nat} {so:List Nat} {sum:Int} {st:List Nat×Int} (h:¬st.2≤sum):growF c m 0 u so sum st=if c u 1<4611686018427387904∧sum+c u 1<st.2 then (so,sum+c u 1) else st:=by unfold growF;rw [if_neg h]
theorem grow_succ {c:Nat→Nat→Int} {m r u:Nat} {so:List Nat} {sum:Int} {st:List Nat×Int} (h:¬st.2≤sum):growF c m (r+1) u so sum st=(List.range m).foldl (loopF c m r u so sum) st:=by
 rw [growF,if_neg h]
 rfl
theorem gr_new {K:GrK} {v:Value} {so:List Nat} {x:Int} {st st':List Nat×Int} {ba:Option Addr} {bc:Nat} {W w1:World} {a1:Option Addr} {c1:Nat} (hK:K.Con W) (hO:W.ownsRow K.B 3 1 v so.length (so.map encN))
  (hV:w1.ownsRow W.heap.size 3 1 (.slice a1 so.length c1) so.length ((so.map Int.ofNat).map encI)) (hC:Cel w1 a1 ((so.map Int.ofNat).map encI)) (hN:∀y,a1=some y→W.heap.size≤y.block) (hb:Below W.heap.size W w1)
  (l0:w1.cell? ⟨K.lb,0,none⟩=some (.int .u64 st.2)) (l1:w1.frozen? ⟨K.lb,0,none⟩=false) (b0:w1.cell? ⟨K.bb,0,none⟩=some (.slice ba st.1.length bc)) (b1:w1.frozen? ⟨K.bb,0,none⟩=false) (hg:st'=(so,x)):
  GrPost K v so st' ba W (.returned (.tuple #[])) ((w1.setCell ⟨K.bb,0,none⟩ (.slice a1 so.length c1)).setCell ⟨K.lb,0,none⟩ (.int .u64 x)):=by
 subst hg
 have hsz:=hK.sz
 obtain ⟨k1,k2,k3,k4,k5,k6⟩:=hK.lt
 have hne:=hK.ne.1
 have ho:OffX (fun k=>k=K.lb∨k=K.bb) w1 ((w1.setCell ⟨K.bb,0,none⟩ (.slice a1 so.length c1)).setCell ⟨K.lb,0,none⟩ (.int .u64 x)):=
  (show OffX (fun k=>k=K.lb∨k=K.bb) w1 (w1.setCell ⟨K.bb,0,none⟩ (.slice a1 so.length c1)) from .set _ (.inr rfl)).trans (.set _ (.inl rfl))
 refine ⟨rfl,?_,?_,a1,c1,⟨⟨?_,?_⟩,⟨?_,?_⟩,?_,fun y hy=>?_⟩,.inr hN⟩
 ·have h1:=hp_owns_go hO hb
  exact ownsRow_setCell_below (ownsRow_setCell_below h1 (show K.bb<K.B from k4) _) (show K.lb<K.B from k1) _
 ·exact (OffX.of_below hb).trans (ho.mono (fun k h=>by rcases h with h|h;exact .inl h;exact .inr (.inl h)))
 ·exact World.cell?_setCell_same (u:=.int .u64 st.2) _ _ _ (by rw [World.cell?_setCell_far _ _ _ _ (show K.bb≠K.lb from fun e=>hne e.symm)];exact l0)
 ·simp [l1]
 ·rw [World.cell?_setCell_far _ _ _ _ (show K.lb≠K.bb from hne)]
  exact World.cell?_setCell_same _ _ _ b0
 ·simp [b1]
 ·exact cel_off (n:=0) (c:=0) hC ho (fun j hj e=>by
   cases a1 with
   |none=>cases hj
   |some y=>
    obtain rfl:y.block=j:=Option.some.inj hj
    have:=hN y rfl
    rcases e with e|e<;>omega)
 ·have h1:=hN y hy
  have h2:y.block<w1.heap.size:=by
   subst hy
   exact (hV.lt _ rfl).2
  exact ⟨by omega,by simpa [World.setCell] using h2⟩
set_option maxRecDepth 100000 in
set_option maxHeartbeats 4000000 in
theorem grow_base (K:GrK) (u:Nat) (so:List Nat) (v:Value) (sum:Int) (st:List Nat×Int) (ba:Option Addr) (bc:Nat) (W:World) (hm:so.length=K.m) (hu:u<K.m+2) (hs:0≤sum∧sum≤422212465065984*(so.length:Int)) (hK:K.Con W) (hS:K.St W ba bc st) (hO:W.ownsRow K.B 3 1 v so.length (so.map encN)):
  Calls Tryz.prog 66 (#[.int .i64 (u:Int),v,.int .u64 sum]++K.caps) W (GrPost K v so (growF K.c K.m 0 u so sum st) ba W):=by
 obtain ⟨ao,cap,e,hc⟩:=Cel.of_owns hO
 have hcn:Cel W ao ((so.map Int.ofNat).map encI):=by rw [encN_map];exact hc
 have HC:=Lib.hid (cloneIO_any (so.map Int.ofNat) ao cap W hcn (by rw [List.length_map];have:=hK.m;omega))
 rw [List.length_map] at HC
 have HO:=Lib.hid hO
 have HK:=Lib.hid hK
 have HS:=Lib.hid hS
 have hl0:=hS.l.1
 obtain ⟨sa,sn,hsl⟩:=hK.s.2
 have hs0:=hK.s.1
 rw [hsl] at hs0
 have hf0:=hK.f
 obtain ⟨D,hD1,hD2,hD3,hD4,hD5⟩:=hK.r u hu
 have hD6:=hD5 1 (by omega)
 have hcb:=hK.c u 1 hu (by omega)
 have hm20:=hK.m
 have hu0:(0:Int)≤(u:Int):=by omega
 have hu1:(u:Int)<(K.m:Int)+2:=by omega
 have h1m:(1:Int)<(K.m:Int)+2:=by omega
 have heq:((so.length:Int)==(K.m:Int))=true:=by rw [beq_iff_eq];omega
 have HSL:=Lib.hid hsl
 have HM:=Lib.hid hm
 have hso:(so.length:Int)≤20:=by omega
 have hsb:sum≤8444249301319680:=by omega
 subst e
 clear hcn hc hO hK hS hsl hm hD5
 unfold GrK.caps
 by_cases h0:st.2≤sum
 ·have HG:=Lib.hid (grow_no (c:=K.c) (m:=K.m) (r:=0) (u:=u) (so:=so) h0)
  go_enter Tryz.func66,Tryz.ntmps66
  go_wp2
  refine bodyPost_ret (v:=.tuple #[]) (by simp [results,Tryz.results66,go_sem];try rfl) rfl ?_
  exact ⟨rfl,HO.out,.refl _ _,ba,bc,by rw [HG.out];exact HS.out,.inl rfl⟩
 ·have HG:=Lib.hid (grow_zero (c:=K.c) (m:=K.m) (u:=u) (so:=so) h0)
  have h0':decide (st.2≤sum)=false:=by simpa using h0
  have hlt:sum<st.2:=by omega
  obtain ⟨d,hd⟩:∃d,d=K.c u 1:=⟨_,rfl⟩
  rw [←hd] at hcb hD6 HG
  clear hd
  by_cases h1:d<4611686018427387904
  ·have hdb:d≤422212465065984:=by omega
   have hd0:=hcb.1
   by_cases h2:sum+d<st.2
   ·have HG2:=Lib.hid (show growF K.c K.m 0 u so sum st=(so,sum+d) by rw [HG.out,if_pos ⟨h1,h2⟩])
    have hcs:=hs.1
    have hn1:(K.lb=K.bb)=False:=eq_false HK.out.ne.1
    have hn2:(K.bb=K.lb)=False:=eq_false (fun e=>HK.out.ne.1 e.symm)
    clear HG hcb hs
    go_enter Tryz.func66,Tryz.ntmps66
    go_wp2_with (go_at_call 67;refine HC.out.mono ?_;rintro e w1 ⟨v1,rfl,h3,h4⟩;(obtain ⟨a1,c1,rfl,h5,h6⟩:=Cel.of_owns_new h3);(have HV:=Lib.hid h3);(have HC1:=Lib.hid h5);(have HN1:=Lib.hid h6);clear h5 h6;(have HB1:=Lib.hid h4);(have HS1:=Lib.hid (HS.out.go HK.out h4));(have l0:=HS1.out.l.1);(have l1:=HS1.out.l.2);(have b0:=HS1.out.b.1);(have b1:=HS1.out.b.2);clear h3 h4)
    refine bodyPost_ret (v:=.tuple #[]) (by simp [results,Tryz.results66,go_sem];try rfl) rfl ?_
    exact gr_new HK.out HO.out HV.out HC1.out HN1.out HB1.out l0 l1 b0 b1 HG2.out
   ·have HG2:=Lib.hid (show growF K.c K.m 0 u so sum st=st by rw [HG.out,if_neg (fun h=>h2 h.2)])
    have h2':decide (sum+d<st.2)=false:=by simpa using h2
    have hcs:=hs.1
    clear HG hcb hs
    go_enter Tryz.func66,Tryz.ntmps66
    go_wp2
    refine bodyPost_ret (v:=.tuple #[]) (by simp [results,Tryz.results66,go_sem];try rfl) rfl ?_
    exact ⟨rfl,HO.out,.refl _ _,ba,bc,by rw [HG2.out];exact HS.out,.inl rfl⟩
  ·have hd4:d=4611686018427387904:=by omega
   have HG2:=Lib.hid (show growF K.c K.m 0 u so sum st=st by rw [HG.out,if_neg (fun h=>h1 h.1)])
   subst hd4
   clear HG hcb h1
   go_enter Tryz.func66,Tryz.ntmps66
   go_wp2
   refine bodyPost_ret (v:=.tuple #[]) (by simp [results,Tryz.results66,go_sem];try rfl) rfl ?_
   exact ⟨rfl,HO.out,.refl _ _,ba,bc,by rw [HG2.out];exact HS.out,.inl rfl⟩
end Go.Proofs.YteaaapdjplbljaaGreat
end
