/- Walk of package adj: laid. -/
import Derived.Test.YteaaapdjplbljaaProg
import Derived.Test.YteaaapdjplbljaaVa06
import Derived.Test.YteaaapdjplbljaaVa08
import Derived.Test.YteaaapdjplbljaaVa12
import Derived.Test.YteaaapdjplbljaaVa05
import Derived.Test.YteaaapdjplbljaaVa13
import Derived.Test.YteaaapdjplbljaaVa14
import Derived.Deep.Cut
import Derived.Deep.CutRange
set_option linter.unusedVariables false
set_option linter.unusedSimpArgs false
set_option linter.unnecessarySimpa false
namespace Go.Proofs.Yteaaapdjplbljaa.Ad
open Go Go.Proofs Go.RowKit Go.Shelf Go.Proofs.Yteaaapdjplbljaa Go.Proofs.Yteaaapdjplbljaa.Hp Go.Proofs.Yteaaapdjplbljaa.Ns
theorem owns_rebase {W:World} {B g n m c s:Nat} {e:TypeId} {xs:List Value} (h:W.ownsRow 0 e s (.slice (some ⟨g,0,none⟩) n c) m xs) (hB:B≤g):W.ownsRow B e s (.slice (some ⟨g,0,none⟩) n c) m xs:=by
 refine ⟨h.1,?_⟩
 rcases h.2 with ⟨h1,_⟩|⟨g',cap,cur,h1,_,hr⟩
 ·cases h1
 ·cases h1
  exact .inr ⟨g,_,cur,rfl,hB,hr⟩
theorem row_obj {W:World} {B g N cp:Nat} {l:List Int} (h:RowI W B g N cp l):∃cur,W.heap[g]? =some (.cells cur 3 (0,0)):=by
 rcases h.2 with ⟨h1,_⟩|⟨g',cap,cur,h1,_,hr,_⟩
 ·cases h1
 ·cases h1
  exact ⟨cur,hr⟩
structure LdW (B:Nat) (W:World) (C E G m n:Nat) (xs bs:List Int):Prop where
 c0:W.cell? ⟨C,0,none⟩=some (.slice (some ⟨E,0,none⟩) m m)
 c1:W.cell? ⟨C,1,none⟩=some (.slice (some ⟨G,0,none⟩) (n+1) (n+1))
 e:RowI W B E m m xs
 g:RowI W B G (n+1) (n+1) bs
 ne:C≠E∧C≠G∧E≠G
 ge:B≤C
section
variable {B:Nat} {W W':World} {C E G m n:Nat} {xs bs:List Int}
theorem LdW.go (h:LdW B W C E G m n xs bs) (hb:Below W.heap.size W W'):LdW B W' C E G m n xs bs:=⟨cell_later hb h.c0,cell_later hb h.c1,hp_owns_go h.e hb,hp_owns_go h.g hb,h.ne,h.ge⟩
theorem row_other {g k:Nat} {l:List Int} {N cp j:Nat} (h:RowI W B g N cp l) (hne:g≠k) (v:Value):RowI (W.setCell ⟨k,j,none⟩ v) B g N cp l:=by
 refine ⟨h.1,?_⟩
 rcases h.2 with h1|⟨g',cap,cur,h1,h2,h3,h4⟩
 ·exact .inl h1
 ·have e:g'=g:=by cases h1;rfl
  subst e
  exact .inr ⟨g',cap,cur,h1,h2,(Below.heap_setCell _ _ _ _ hne).trans h3,h4⟩
theorem LdW.setG (h:LdW B W C E G m n xs bs) (j:Nat) (x:Int):LdW B (W.setCell ⟨G,j,none⟩ (.int .i64 x)) C E G m n xs (bs.set j x):=
 ⟨by rw [World.cell?_setCell_other _ _ _ _ (fun e=>h.ne.2.1 (by cases e;rfl))];exact h.c0,by rw [World.cell?_setCell_other _ _ _ _ (fun e=>h.ne.2.1 (by cases e;rfl))];exact h.c1,row_other h.e h.ne.2.2 _,h.g.put j x,h.ne,h.ge⟩
theorem LdW.setE (h:LdW B W C E G m n xs bs) (j:Nat) (x:Int):LdW B (W.setCell ⟨E,j,none⟩ (.int .i64 x)) C E G m n (xs.set j x) bs:=
 ⟨by rw [World.cell?_setCell_other _ _ _ _ (fun e=>h.ne.1 (by cases e;rfl))];exact h.c0,by rw [World.cell?_setCell_other _ _ _ _ (fun e=>h.ne.1 (by cases e;rfl))];exact h.c1,h.e.put j x,row_other h.g (fun e=>h.ne.2.2 e.symm) _,h.ne,h.ge⟩
theorem LdW.setO (h:LdW B W C E G m n xs bs) {k:Nat} (hk:k≠C∧k≠E∧k≠G) (j:Nat) (v:Value):LdW B (W.setCell ⟨k,j,none⟩ v) C E G m n xs bs:=
 ⟨by rw [World.cell?_setCell_other _ _ _ _ (fun e=>hk.1 (by cases e;rfl))];exact h.c0,by rw [World.cell?_setCell_other _ _ _ _ (fun e=>hk.1 (by cases e;rfl))];exact h.c1,row_other h.e (fun e=>hk.2.1 e.symm) _,row_other h.g (fun e=>hk.2.2 e.symm) _,h.ne,h.ge⟩
end
def kfE (key:EdgeD→Int) (es:List EdgeD) (i:Nat):Nat:=(key (es.getD i ⟨0,0,0⟩)).toNat
def LaidPost (key:EdgeD→Int) (n:Nat) (es:List EdgeD) (w:World) (e:Ending) (w':World):Prop:=
 ∃(E G:Nat) (xs:List Int),e=.returned (.agg #[.slice (some ⟨E,0,none⟩) es.length es.length,.slice (some ⟨G,0,none⟩) (n+1) (n+1)])∧EdgP (kfE key es) es.length es.length xs∧
  Cel w' (some ⟨E,0,none⟩) (xs.map encI)∧Cel w' (some ⟨G,0,none⟩) ((midL (kfE key es) n es.length n).map encI)∧Below w.heap.size w w'∧(w.heap.size≤E∧E<w'.heap.size)∧w.heap.size≤G∧G<w'.heap.size
def CmpKey (F:Nat) (key:EdgeD→Int):Prop:=∀(e:EdgeD) (W:World),Calls Try.prog F #[encE e] W fun r w'=>r=.returned (.int .i64 (key e))∧Below W.heap.size W w'
def adR (lv:Value) (m n B:Nat):Nat→Value→List Nat→World→Prop
 |0,v,_,_=>v=lv
 |1,v,_,_=>v=.int .i64 (m:Int)
 |2,v,g,W=>∃E,g=[E]∧v=.slice (some ⟨E,0,none⟩) m m∧RowI W B E m m (List.replicate m 0)
 |3,v,_,_=>v=.int .i64 (n:Int)
 |4,v,_,_=>v=.int .i64 ((n:Int)+1)
 |5,v,g,W=>∃G,g=[G]∧v=.slice (some ⟨G,0,none⟩) (n+1) (n+1)∧RowI W B G (n+1) (n+1) (List.replicate (n+1) 0)
 |6,v,_,W=>∃E G,E≠G∧v=.agg #[.slice (some ⟨E,0,none⟩) m m,.slice (some ⟨G,0,none⟩) (n+1) (n+1)]∧RowI W B E m m (List.replicate m 0)∧RowI W B G (n+1) (n+1) (List.replicate (n+1) 0)
 |7,v,_,W=>∃C,B≤C∧v=.pointer (some ⟨C,0,none⟩)∧W.heap[C]? =some (.cells #[.slice none 0 0,.slice none 0 0] 86 (0,0))
 |_,_,_,_=>True
theorem adR_go {lv:Value} {m n B:Nat}:∀(i:Nat) (v:Value) (g:List Nat) (w w':World),Below w.heap.size w w'→adR lv m n B i v g w→adR lv m n B i v g w'
 |0,_,_,_,_,_,h|1,_,_,_,_,_,h|3,_,_,_,_,_,h|4,_,_,_,_,_,h=>h
 |2,_,_,_,_,hb,h|5,_,_,_,_,hb,h=>let ⟨E,h1,h2,h3⟩:=h;⟨E,h1,h2,hp_owns_go h3 hb⟩
 |6,_,_,_,_,hb,h=>let ⟨E,G,h1,h2,h3,h4⟩:=h;⟨E,G,h1,h2,hp_owns_go h3 hb,hp_owns_go h4 hb⟩
 |7,_,_,_,_,hb,h=>let ⟨C,h0,h1,h2⟩:=h;⟨C,h0,h1,(hb.block C (Array.getElem?_eq_some_iff.1 h2).1).trans h2⟩
 |_+8,_,_,_,_,_,_=>trivial
theorem row_mk (n:Nat) (hn:n≤60000) (W:World) (B:Nat) (hB:B≤W.heap.size):RowI (W.alloc (.cells (madeCells #[.int .i64 0] n) 3)) B W.heap.size n n (List.replicate n 0):=by
 have:=owns_rebase (own_mk n hn W) hB
 rw [show List.replicate n (Value.int .i64 0)=(List.replicate n (0:Int)).map encI by rw [List.map_replicate]] at this
 exact this
theorem two_cells {W:World} {C:Nat} {u v:Value} {T:TypeId} (h:W.heap[C]? =some (.cells #[u,v] T (0,0))):W.cell? ⟨C,0,none⟩=some u∧W.cell? ⟨C,1,none⟩=some v∧W.frozen? ⟨C,0,none⟩=false∧W.frozen? ⟨C,1,none⟩=false:=by
 refine ⟨?_,?_,?_,?_⟩<;>simp [World.cell?,World.frozen?,h]
set_option maxRecDepth 100000 in
set_option maxHeartbeats 1000000 in
theorem cloneO_any (n:Nat) (xs:List Value) (ao:Option Addr) (cap:Nat) (w:World) (hx:xs.length=n*1) (h:Cel w ao xs) (h1:∀u∈xs,u.oneCell'=true) (hl:n≤1000000) (hpos:0<n):
  Calls Try.prog 42 #[.slice ao n cap] w fun e w'=>∃g c,e=.returned (.slice (some ⟨g,0,none⟩) n c)∧w'.ownsRow w.heap.size 3 1 (.slice (some ⟨g,0,none⟩) n c) n xs∧Below w.heap.size w w':=by
 have heq:=Lib.run_eql_slice_nil (P:=Try.prog) w 25 3 ao n cap 0 0 Try.underlying25
 obtain ⟨gb,gof,e,-⟩:=h 0 _ (List.getElem?_eq_getElem (by omega))
 subst e
 simp only [Option.isNone] at heq
 have hlit:(w.alloc (.cells #[] 3)).ownsRow w.heap.size 3 1 (.slice (some ⟨w.heap.size,0,none⟩) 0 0) 0 []:=World.ownsRow_lit (base:=w.heap.size) (e:=3) (size:=1) w #[] 0 (Nat.le_refl _) (by unfold maxLen;omega) rfl
 obtain ⟨i0,hi,hz0,hsz,hby⟩:=info_parts hp_elemi.1
 have HL:=Lib.hid hlit
 have HC:=Lib.hid (h.go (Below.of_al w (.cells #[] 3)))
 have HX:=Lib.hid hx
 have H1:=Lib.hid h1
 clear hlit h hx h1
 go_enter Try.func42,Try.ntmps42
 go_wp2_with (at_builtin;refine wpList_append_own _ rfl _ _ _ rfl w.heap.size 3 i0 (.int .i64 0) 1 8 Try.underlying25 hi hz0 hsz hby rfl (by decide) (.slice (some ⟨w.heap.size,0,none⟩) 0 0) 0 [] rfl HL.out ⟨gb,gof,none⟩ n cap xs rfl HX.out (fun j u hj=>by rw [Addr.add_lit];obtain ⟨b',o',e,h⟩:=HC.out j u hj;cases e;exact h) H1.out (by unfold maxLen;omega) (by omega) (by simp) ?_;intro v1 w1 ho1 hg1 hn1)
 have hbl:=(Below.of_al w (.cells #[] 3)).grown hg1 (by simp) (fun k hk=>(HL.out.lt k hk).1)
 rw [Nat.zero_add,List.nil_append] at ho1
 obtain ⟨g,cap,rfl⟩:=own_form ho1 hpos
 go_ret
 exact ⟨g,cap,rfl,ho1,hbl⟩
set_option maxRecDepth 100000 in
set_option maxHeartbeats 4000000 in
theorem laid_any (F:Nat) (key:EdgeD→Int) (hen:Enters Try.prog F) (hF:CmpKey F key) (n:Nat) (es:List EdgeD) (ao:Option Addr) (cap:Nat) (w:World) (hn:n≤50000) (hel:es.length≤50000) (hc:Cel w ao (flat es)) (hk:∀e∈es,0≤key e∧key e<(n:Int)):
  Calls Try.prog 58 #[.int .i64 (n:Int),.slice ao es.length cap,.func (.func F) #[] #[]] w (LaidPost key n es w):=by
 have HF:=Lib.hid hF
 have HC:=Lib.hid hc
 have HK:=Lib.hid hk
 have HE:=Lib.hid hen
 have hn2:(n:Int)≤50000:=by omega
 have hn0:(0:Int)≤(n:Int):=by omega
 have hm2:(es.length:Int)≤50000:=by omega
 have hm0:(0:Int)≤(es.length:Int):=by omega
 have hmkm:=fun W=>run_mk_int es.length (by omega) W
 have hmkn:=fun W=>run_mk_int (n+1) (by omega) W
 have hrm:=fun W B hB=>row_mk es.length (by omega) W B hB
 have hrn:=fun W B hB=>row_mk (n+1) (by omega) W B hB
 have HM:=Lib.hid (And.intro hrm hrn)
 obtain ⟨W0,hW0⟩:∃W0,W0=w.alloc (Obj.cells #[.slice none 0 0,.slice none 0 0] 86):=⟨_,rfl⟩
 have HW0:=Lib.hid hW0
 have HB0:=Lib.hid (show Below w.heap.size w W0 by rw [hW0];exact Below.of_al _ _)
 have HZ0:=Lib.hid (show w.heap.size<W0.heap.size by rw [hW0];simp)
 have HR0:=Lib.hid (show W0.heap[w.heap.size]? =some (.cells #[.slice none 0 0,.slice none 0 0] 86 (0,0)) by rw [hW0];exact World.alloc_heap_new _ _)
 clear hF hc hk hrm hrn hen hW0
 go_enter Try.func58,Try.ntmps58
 go_upto_region 1 with (fail)
 rw [←HW0.out]
 refine wp_region_grows_s 8 _ rfl rfl (adR (.slice ao es.length cap) es.length n W0.heap.size) (by kernel_rfl) (by kernel_rfl) (by kernel_rfl) adR_go ?hop1 ?hend1
 case hop1=>
  refine ⟨?_,?_,?_,?_,?_,?_,?_,?_,trivial⟩
  ·intro act gs w' hbe hd hdis ho K hK
   have q0:act.tmps.getD 1 undef=.slice ao es.length cap:=ho 1 (by kernel_rfl)
   refine .inl ⟨goes_free rfl,?_⟩
   simp [Oper.wp,execOp,Oper.upon,go_sem,Act.eval,q0]
   exact hK _ [] w' (Below.refl _ _) rfl (fun _ h=>nomatch h)
  ·intro act gs w' hbe hd hdis ho K hK
   have q0:act.tmps.getD 15 undef=.slice ao es.length cap:=hd 0 (by rfl)
   refine .inl ⟨goes_free rfl,?_⟩
   simp [Oper.wp,execOp,Oper.upon,go_sem,Act.eval,q0]
   exact hK _ [] w' (Below.refl _ _) rfl (fun _ h=>nomatch h)
  ·intro act gs w' hbe hd hdis ho K hK
   have q0:act.tmps.getD 16 undef=.int .i64 (es.length:Int):=hd 1 (by rfl)
   refine .inl ⟨goes_free rfl,?_⟩
   simp [Oper.wp,execOp,Oper.upon,go_sem,Act.eval,q0,hmkm w']
   exact hK _ [w'.heap.size] _ (Below.of_al _ _) ⟨_,rfl,rfl,HM.out.1 w' _ hbe.size⟩ (fun k h=>by obtain rfl:=List.mem_singleton.1 h;exact ⟨Nat.le_refl _,by simp⟩)
  ·intro act gs w' hbe hd hdis ho K hK
   have q0:act.tmps.getD 0 undef=.int .i64 (n:Int):=ho 0 (by kernel_rfl)
   refine .inl ⟨goes_free rfl,?_⟩
   simp [Oper.wp,execOp,Oper.upon,go_sem,Act.eval,q0]
   exact hK _ [] w' (Below.refl _ _) rfl (fun _ h=>nomatch h)
  ·intro act gs w' hbe hd hdis ho K hK
   have q0:act.tmps.getD 18 undef=.int .i64 (n:Int):=hd 3 (by rfl)
   have hw:IntKind.i64.wrap ((n:Int)+1)=(n:Int)+1:=by rw [IntKind.wrap_i64];omega
   refine .inl ⟨goes_free rfl,?_⟩
   simp [Oper.wp,execOp,Oper.upon,go_sem,Act.eval,q0,hw]
   exact hK _ [] w' (Below.refl _ _) rfl (fun _ h=>nomatch h)
  ·intro act gs w' hbe hd hdis ho K hK
   have q0:act.tmps.getD 19 undef=.int .i64 ((n:Int)+1):=hd 4 (by rfl)
   have hmk:_=_:=hmkn w'
   rw [show (((n+1:Nat):Int))=(n:Int)+1 by omega] at hmk
   refine .inl ⟨goes_free rfl,?_⟩
   simp [Oper.wp,execOp,Oper.upon,go_sem,Act.eval,q0,hmk]
   exact hK _ [w'.heap.size] _ (Below.of_al _ _) ⟨_,rfl,rfl,HM.out.2 w' _ hbe.size⟩ (fun k h=>by obtain rfl:=List.mem_singleton.1 h;exact ⟨Nat.le_refl _,by simp⟩)
  ·intro act gs w' hbe hd hdis ho K hK
   obtain ⟨E,g2,e2,r2⟩:adR (.slice ao es.length cap) es.length n _ 2 (act.tmps.getD 17 undef) (gs 2) w':=hd 2 (by rfl)
   obtain ⟨G,g5,e5,r5⟩:adR (.slice ao es.length cap) es.length n _ 5 (act.tmps.getD 20 undef) (gs 5) w':=hd 5 (by rfl)
   have hne:E≠G:=fun e=>hdis 2 5 E (by rfl) (by rfl) (by decide) (by rw [g2];simp) (by rw [g5,e];simp)
   have z0:=(Array.getD_eq_getD_getElem? (xs:=act.tmps) (i:=17) (d:=undef)).symm.trans e2
   have z1:=(Array.getD_eq_getD_getElem? (xs:=act.tmps) (i:=20) (d:=undef)).symm.trans e5
   refine .inl ⟨goes_free rfl,?_⟩
   simp [Oper.wp,execOp,Oper.upon,go_sem,Act.eval,z0,z1,e2,e5]
   exact hK _ [] w' (Below.refl _ _) ⟨E,G,hne,rfl,r2,r5⟩ (fun _ h=>nomatch h)
  ·intro act gs w' hbe hd hdis ho K hK
   refine .inl ⟨goes_free rfl,?_⟩
   simp [Oper.wp,execOp,Oper.upon,go_sem,Act.eval]
   exact hK _ [] _ (Below.of_al _ _) ⟨_,hbe.size,rfl,World.alloc_heap_new _ _⟩ (fun _ h=>nomatch h)
 intro vs gs act w1 hb1 hR hgf hgd hon hoff hact
 obtain ⟨E,G,hne,e6,r6,s6⟩:=hR 6 (by decide)
 obtain ⟨C,hC,e7,hcell⟩:=hR 7 (by decide)
 have t7:act.tmps.getD 7 undef=.pointer (some ⟨C,0,none⟩):=(hon 7 (by decide)).trans e7
 have t21:act.tmps.getD 21 undef=.agg #[.slice (some ⟨E,0,none⟩) es.length es.length,.slice (some ⟨G,0,none⟩) (n+1) (n+1)]:=(hon 6 (by decide)).trans e6
 obtain ⟨x0,x1,z0,z1⟩:=two_cells hcell
 simp [Oper.wp,execOp,Oper.upon,go_sem,Act.eval,t7,t21,x0,x1,z0,z1]
 have hCE:C≠E:=fun e=>by
  obtain ⟨cur,hq⟩:=row_obj r6
  rw [←e,hcell] at hq
  cases hq
 have hCG:C≠G:=fun e=>by
  obtain ⟨cur,hq⟩:=row_obj s6
  rw [←e,hcell] at hq
  cases hq
 obtain ⟨W1,hW1⟩:∃W1,W1=(w1.setCell ⟨C,0,none⟩ (.slice (some ⟨E,0,none⟩) es.length es.length)).setCell ⟨C,1,none⟩ (.slice (some ⟨G,0,none⟩) (n+1) (n+1)):=⟨_,rfl⟩
 have HL1:=Lib.hid (show LdW W0.heap.size W1 C E G es.length n (List.replicate es.length 0) (begL (kfE key es) n 0) by
  rw [hW1,begL_start]
  refine ⟨?_,?_,row_other (row_other r6 (fun e=>hCE e.symm) _) (fun e=>hCE e.symm) _,row_other (row_other s6 (fun e=>hCG e.symm) _) (fun e=>hCG e.symm) _,⟨hCE,hCG,hne⟩,hC⟩
  ·rw [World.cell?_setCell_other _ _ _ _ (by simp)]
   exact World.cell?_setCell_same _ _ _ x0
  ·exact World.cell?_setCell_same (u:=.slice none 0 0) _ _ _ (by rw [World.cell?_setCell_other _ _ _ _ (by simp)];exact x1))
 have HB1:=Lib.hid (show Below W0.heap.size W0 W1 by rw [hW1];exact (hb1.setCell (by show W0.heap.size≤C;omega) _).setCell (by show W0.heap.size≤C;omega) _)
 have HZ1:=Lib.hid (show C<W1.heap.size by rw [hW1];simp [World.setCell];exact (Array.getElem?_eq_some_iff.1 hcell).1)
 rw [←hW1,hact]
 simp only [puts,dstAt,List.getElem?_cons_zero,List.getElem?_cons_succ,Option.bind_some,Option.getD_some,Act.put,List.length_cons,List.length_nil,Nat.reduceAdd,List.setIfInBounds_toArray,List.set_cons_zero,List.set_cons_succ,e6,e7]
 clear hR hgf hgd hon hoff hact t7 t21 x0 x1 z0 z1 e6 e7 r6 s6 hcell hW1 hb1 hC hne hCE hCG
 generalize vs 0=y0
 generalize vs 1=y1
 generalize vs 2=y2
 generalize vs 3=y3
 generalize vs 4=y4
 generalize vs 5=y5
 clear vs gs act w1
 have HKF:=Lib.hid (fun (k:Nat) (hk:k<es.length)=>(show ((kfE key es k:Nat):Int)=key es[k]∧kfE key es k<n by
  have h9:=HK.out _ (List.getElem_mem hk)
  unfold kfE
  rw [show es.getD k ⟨0,0,0⟩=es[k] by simp [List.getD,hk]]
  omega))
 have HKN:=Lib.hid (fun (i:Nat) (hi:i<es.length)=>(HKF.out i hi).2)
 go_wp2
 go_loopg [24] es.length (fun gg v24 wr=>∃k:Nat,k≤es.length∧es.length-k≤gg∧v24=.int .i64 (k:Int)∧Aside (LdW W0.heap.size wr C E G es.length n (List.replicate es.length 0) (begL (kfE key es) n k))∧Aside (Below W0.heap.size W0 wr))
 case atStart=>exact ⟨0,Nat.zero_le _,by omega,rfl,HL1.out,HB1.out⟩
 case round=>
  obtain ⟨k,hk,hgg,rfl,HL,HB⟩:=hrel
  by_cases hlt:k<es.length
  ·have hlt3:(k:Int)<(es.length:Int):=by omega
   have hk0:(0:Int)≤(k:Int):=by omega
   obtain ⟨eb,eo,hao,f0,f1,f2⟩:=(HC.out.go (HB0.out.st HB)).edge hlt
   obtain ⟨hkey,hkn⟩:=HKF.out k hlt
   have HKY:=Lib.hid hkey
   have hcl:=cntN_le (kfE key es) (kfE key es k) k
   have hst:=begL_step (kf:=kfE key es) (n:=n) (k:=k) hkn
   have hat:=begL_at (kf:=kfE key es) (k:=k) hkn
   obtain ⟨q,hq⟩:∃q,q=kfE key es k+1:=⟨_,rfl⟩
   rw [←hq] at hst hat
   have hq1:(q:Int)<(n:Int)+1:=by omega
   have hqi:((kfE key es k:Nat):Int)+1=(q:Int):=by omega
   have hwq:IntKind.i64.wrap (((kfE key es k:Nat):Int)+1)=(q:Int):=by rw [IntKind.wrap_i64];omega
   have hwc:IntKind.i64.wrap (((cntN (kfE key es) k (kfE key es k):Nat):Int)+1)=((cntN (kfE key es) k (kfE key es k):Nat):Int)+1:=by rw [IntKind.wrap_i64];omega
   have HST:=Lib.hid hst
   have HAT:=Lib.hid hat
   clear hkey hq hst hat hcl
   generalize ((cntN (kfE key es) k (kfE key es k):Nat):Int)=c at*
   generalize ((kfE key es k:Nat):Int)=ky at*
   generalize es[k]=x at*
   obtain ⟨ef,et,ew⟩:=x
   simp only at f0 f1 f2
   go_upto_region 5 with (fail)
   obtain ⟨W2,hW2⟩:∃W2,W2=wr.alloc (Obj.cells #[.int .i64 ef,.int .i64 et,.int .u64 ew] 45):=⟨_,rfl⟩
   rw [←hW2]
   have hb2:Below wr.heap.size wr W2:=by rw [hW2];exact Below.of_al _ _
   have b0:W2.cell? ⟨wr.heap.size,0,none⟩=some (.int .i64 ef):=by rw [hW2];go_simp
   have b1:W2.cell? ⟨wr.heap.size,1,none⟩=some (.int .i64 et):=by rw [hW2];go_simp
   have b2:W2.cell? ⟨wr.heap.size,2,none⟩=some (.int .u64 ew):=by rw [hW2];go_simp
   have HL2:=Lib.hid (HL.go hb2)
   have HB2:=Lib.hid (HB.trans (hb2.mono (by have:=HB.size;omega)))
   have l1:=HL2.out.c1
   have g1:=HL2.out.g.cell HAT.out
   have zg:=HL2.out.g.frozenAt q
   have HFK:=Lib.hid (fun W=>HF.out ⟨ef,et,ew⟩ W)
   rw [←HKY.out] at HFK
   have hen:=HE.out
   unfold Enters at hen
   clear f0 f1 f2 hW2 hb2
   generalize wr.heap.size=eb2 at*
   refine wp_region_grows_s 10 _ rfl rfl (valR [.pointer (some ⟨C,1,none⟩),.slice (some ⟨G,0,none⟩) (n+1) (n+1),.func (.func F) #[] #[],.agg #[.int .i64 ef,.int .i64 et,.int .u64 ew],.int .i64 ky,.int .i64 (q:Int),.pointer (some ⟨G,q,none⟩),.int .i64 c,.int .i64 (c+1),.pointer (some ⟨G,q,none⟩)]) (by kernel_rfl) (by kernel_rfl) (by kernel_rfl) valR_go ?hopb ?hendb
   case hopb=>
    refine ⟨?_,?_,?_,?_,?_,?_,?_,?_,?_,?_,trivial⟩
    ·intro act gs w' hbe hd hdis ho K hK
     have q0:act.tmps.getD 7 undef=.pointer (some ⟨C,0,none⟩):=ho 7 (by kernel_rfl)
     refine .inl ⟨goes_free rfl,?_⟩
     simp [Oper.wp,execOp,Oper.upon,go_sem,Act.eval,q0]
     exact hK _ [] w' (Below.refl _ _) rfl (fun _ h=>nomatch h)
    ·intro act gs w' hbe hd hdis ho K hK
     have q0:act.tmps.getD 28 undef=.pointer (some ⟨C,1,none⟩):=hd 0 (by rfl)
     have f0:=cell_later hbe l1
     refine .inl ⟨goes_free rfl,?_⟩
     simp [Oper.wp,execOp,Oper.upon,go_sem,Act.eval,q0,f0]
     exact hK _ [] w' (Below.refl _ _) rfl (fun _ h=>nomatch h)
    ·intro act gs w' hbe hd hdis ho K hK
     have q0:act.tmps.getD 2 undef=.func (.func F) #[] #[]:=ho 2 (by kernel_rfl)
     refine .inl ⟨goes_free rfl,?_⟩
     simp [Oper.wp,execOp,Oper.upon,go_sem,Act.eval,q0]
     exact hK _ [] w' (Below.refl _ _) rfl (fun _ h=>nomatch h)
    ·intro act gs w' hbe hd hdis ho K hK
     have q0:act.tmps.getD 9 undef=.pointer (some ⟨eb2,0,none⟩):=ho 9 (by kernel_rfl)
     have f0:=cell_later hbe b0
     have f1:=cell_later hbe b1
     have f2:=cell_later hbe b2
     refine .inl ⟨goes_free rfl,?_⟩
     simp [Oper.wp,execOp,Oper.upon,go_sem,Act.eval,q0,f0,f1,f2]
     exact hK _ [] w' (Below.refl _ _) rfl (fun _ h=>nomatch h)
    ·intro act gs w' hbe hd hdis ho K hK
     have q0:act.tmps.getD 30 undef=.func (.func F) #[] #[]:=hd 2 (by rfl)
     have q1:act.tmps.getD 31 undef=.agg #[.int .i64 ef,.int .i64 et,.int .u64 ew]:=hd 3 (by rfl)
     refine .inl ⟨goes_free rfl,?_⟩
     simp [Oper.wp,execOp,Oper.upon,go_sem,Act.eval,q0,q1,hen]
     refine (HFK.out w').mono ?_
     rintro e w6 ⟨rfl,h6⟩
     exact hK _ [] w6 h6 rfl (fun _ h=>nomatch h)
    ·intro act gs w' hbe hd hdis ho K hK
     have q0:act.tmps.getD 32 undef=.int .i64 ky:=hd 4 (by rfl)
     refine .inl ⟨goes_free rfl,?_⟩
     simp [Oper.wp,execOp,Oper.upon,go_sem,Act.eval,q0,hwq]
     exact hK _ [] w' (Below.refl _ _) rfl (fun _ h=>nomatch h)
    ·intro act gs w' hbe hd hdis ho K hK
     have q0:act.tmps.getD 29 undef=.slice (some ⟨G,0,none⟩) (n+1) (n+1):=hd 1 (by rfl)
     have q1:act.tmps.getD 33 undef=.int .i64 (q:Int):=hd 5 (by rfl)
     refine .inl ⟨goes_free rfl,?_⟩
     simp [Oper.wp,execOp,Oper.upon,go_sem,Act.eval,q0,q1,hq1]
     exact hK _ [] w' (Below.refl _ _) rfl (fun _ h=>nomatch h)
    ·intro act gs w' hbe hd hdis ho K hK
     have q0:act.tmps.getD 34 undef=.pointer (some ⟨G,q,none⟩):=hd 6 (by rfl)
     have f0:=cell_later hbe g1
     refine .inl ⟨goes_free rfl,?_⟩
     simp [Oper.wp,execOp,Oper.upon,go_sem,Act.eval,q0,f0]
     exact hK _ [] w' (Below.refl _ _) rfl (fun _ h=>nomatch h)
    ·intro act gs w' hbe hd hdis ho K hK
     have q0:act.tmps.getD 35 undef=.int .i64 c:=hd 7 (by rfl)
     refine .inl ⟨goes_free rfl,?_⟩
     simp [Oper.wp,execOp,Oper.upon,go_sem,Act.eval,q0,hwc]
     exact hK _ [] w' (Below.refl _ _) rfl (fun _ h=>nomatch h)
    ·intro act gs w' hbe hd hdis ho K hK
     have q0:act.tmps.getD 29 undef=.slice (some ⟨G,0,none⟩) (n+1) (n+1):=hd 1 (by rfl)
     have q1:act.tmps.getD 33 undef=.int .i64 (q:Int):=hd 5 (by rfl)
     refine .inl ⟨goes_free rfl,?_⟩
     simp [Oper.wp,execOp,Oper.upon,go_sem,Act.eval,q0,q1,hq1]
     exact hK _ [] w' (Below.refl _ _) rfl (fun _ h=>nomatch h)
   intro vs gs act w3 hb3 hR _ _ hon hoff hact
   have t36:act.tmps.getD 36 undef=.int .i64 (c+1):=(hon 8 (by decide)).trans (hR 8 (by decide))
   have t37:act.tmps.getD 37 undef=.pointer (some ⟨G,q,none⟩):=(hon 9 (by decide)).trans (hR 9 (by decide))
   have x0:=cell_later hb3 g1
   have z0:=(hb3.frozen (p:=⟨G,q,none⟩) (World.block_lt_of_cell? _ _ g1)).trans zg
   simp [Oper.wp,execOp,Oper.upon,go_sem,Act.eval,t36,t37,x0,z0]
   have HL3:=Lib.hid ((HL2.out.go hb3).setG q (c+1))
   rw [HST.out] at HL3
   have HB3:=Lib.hid ((HB2.out.trans (hb3.mono (by have:=HB2.out.size;omega))).setCell (p:=⟨G,q,none⟩) HL2.out.g.base.1 (.int .i64 (c+1)))
   rw [hact]
   simp only [puts,dstAt,List.getElem?_cons_zero,List.getElem?_cons_succ,Option.bind_some,Option.getD_some,Act.put,List.length_cons,List.length_nil,Nat.reduceAdd,List.setIfInBounds_toArray,List.set_cons_zero,List.set_cons_succ]
   clear hR hon hoff hact t36 t37 x0 z0
   generalize (w3.setCell ⟨G,q,none⟩ (.int .i64 (c+1)))=w4 at*
   generalize vs 0=y0
   generalize vs 1=y1
   generalize vs 2=y2
   generalize vs 3=y3
   generalize vs 4=y4
   generalize vs 5=y5
   generalize vs 6=y6
   generalize vs 7=y7
   generalize vs 8=y8
   generalize vs 9=y9
   go_wp2
   go_roundg (es.length-(k+1))
   case measure=>omega
   case rel=>exact ⟨k+1,by omega,Nat.le_refl _,by go_num,HL3.out,HB3.out⟩
  ·obtain rfl:k=es.length:=by omega
   have HLM:=Lib.hid HL
   rw [←midL_start] at HLM
   have HC0:=Lib.hid HC.out
   clear HL HC
   go_wp2
   go_loopg [40] n (fun gg v40 wr=>∃v:Nat,v≤n∧n-v≤gg∧v40=.int .i64 (v:Int)∧Aside (LdW W0.heap.size wr C E G es.length n (List.replicate es.length 0) (midL (kfE key es) n es.length v))∧Aside (Below W0.heap.size W0 wr))
   case atStart=>exact ⟨0,Nat.zero_le _,by omega,rfl,HLM.out,HB⟩
   case round=>
    clear HLM HB
    obtain ⟨v,hv,hgg,rfl,HL,HB⟩:=hrel
    by_cases hlt:v<n
    ·have hlt3:(v:Int)<(n:Int):=by omega
     have hv0:(0:Int)≤(v:Int):=by omega
     have HST:=Lib.hid (midL_step (kf:=kfE key es) (n:=n) (m:=es.length) hlt)
     have g1:=HL.g.cell (midL_at1 (kf:=kfE key es) (n:=n) (m:=es.length) hlt)
     have g0:=HL.g.cell (midL_at0 (kf:=kfE key es) (n:=n) (m:=es.length) hlt)
     have l1:=HL.c1
     have zg:=HL.g.frozenAt (v+1)
     have hc1:=cntN_le (kfE key es) v es.length
     have hc2:=preN_le (kfE key es) v es.length
     have hwq:IntKind.i64.wrap ((v:Int)+1)=(v:Int)+1:=by rw [IntKind.wrap_i64];omega
     have hv1:(v:Int)+1<(n:Int)+1:=by omega
     have hv2:(v:Int)<(n:Int)+1:=by omega
     have hv3:(0:Int)≤(v:Int)+1:=by omega
     have hwc:IntKind.i64.wrap (((cntN (kfE key es) es.length v:Nat):Int)+((preN (kfE key es) es.length v:Nat):Int))=((cntN (kfE key es) es.length v:Nat):Int)+((preN (kfE key es) es.length v:Nat):Int):=by rw [IntKind.wrap_i64];omega
     have HLH:=Lib.hid HL
     have HBH:=Lib.hid HB
     clear HL HB hc1 hc2
     generalize ((cntN (kfE key es) es.length v:Nat):Int)=c at*
     generalize ((preN (kfE key es) es.length v:Nat):Int)=p at*
     go_upto_region 10 with (fail)
     refine wp_region_grows_s 13 _ rfl rfl (valR [.pointer (some ⟨C,1,none⟩),.slice (some ⟨G,0,none⟩) (n+1) (n+1),.int .i64 (v:Int),.int .i64 ((v:Int)+1),.pointer (some ⟨G,v+1,none⟩),.int .i64 c,.pointer (some ⟨C,1,none⟩),.slice (some ⟨G,0,none⟩) (n+1) (n+1),.int .i64 (v:Int),.pointer (some ⟨G,v,none⟩),.int .i64 p,.int .i64 (c+p),.pointer (some ⟨G,v+1,none⟩)]) (by kernel_rfl) (by kernel_rfl) (by kernel_rfl) valR_go ?hopc ?hendc
     case hopc=>
      refine ⟨?_,?_,?_,?_,?_,?_,?_,?_,?_,?_,?_,?_,?_,trivial⟩
      ·intro act gs w' hbe hd hdis ho K hK
       have q0:act.tmps.getD 7 undef=.pointer (some ⟨C,0,none⟩):=ho 7 (by kernel_rfl)
       refine .inl ⟨goes_free rfl,?_⟩
       simp [Oper.wp,execOp,Oper.upon,go_sem,Act.eval,q0]
       exact hK _ [] w' (Below.refl _ _) rfl (fun _ h=>nomatch h)
      ·intro act gs w' hbe hd hdis ho K hK
       have q0:act.tmps.getD 43 undef=.pointer (some ⟨C,1,none⟩):=hd 0 (by rfl)
       have f0:=cell_later hbe l1
       refine .inl ⟨goes_free rfl,?_⟩
       simp [Oper.wp,execOp,Oper.upon,go_sem,Act.eval,q0,f0]
       exact hK _ [] w' (Below.refl _ _) rfl (fun _ h=>nomatch h)
      ·intro act gs w' hbe hd hdis ho K hK
       have q0:act.tmps.getD 10 undef=.int .i64 (v:Int):=ho 10 (by kernel_rfl)
       refine .inl ⟨goes_free rfl,?_⟩
       simp [Oper.wp,execOp,Oper.upon,go_sem,Act.eval,q0]
       exact hK _ [] w' (Below.refl _ _) rfl (fun _ h=>nomatch h)
      ·intro act gs w' hbe hd hdis ho K hK
       have q0:act.tmps.getD 45 undef=.int .i64 (v:Int):=hd 2 (by rfl)
       refine .inl ⟨goes_free rfl,?_⟩
       simp [Oper.wp,execOp,Oper.upon,go_sem,Act.eval,q0,hwq]
       exact hK _ [] w' (Below.refl _ _) rfl (fun _ h=>nomatch h)
      ·intro act gs w' hbe hd hdis ho K hK
       have q0:act.tmps.getD 44 undef=.slice (some ⟨G,0,none⟩) (n+1) (n+1):=hd 1 (by rfl)
       have q1:act.tmps.getD 46 undef=.int .i64 ((v:Int)+1):=hd 3 (by rfl)
       refine .inl ⟨goes_free rfl,?_⟩
       simp [Oper.wp,execOp,Oper.upon,go_sem,Act.eval,q0,q1,hv1,hv3,hlt]
       exact hK _ [] w' (Below.refl _ _) rfl (fun _ h=>nomatch h)
      ·intro act gs w' hbe hd hdis ho K hK
       have q0:act.tmps.getD 47 undef=.pointer (some ⟨G,v+1,none⟩):=hd 4 (by rfl)
       have f0:=cell_later hbe g1
       refine .inl ⟨goes_free rfl,?_⟩
       simp [Oper.wp,execOp,Oper.upon,go_sem,Act.eval,q0,f0]
       exact hK _ [] w' (Below.refl _ _) rfl (fun _ h=>nomatch h)
      ·intro act gs w' hbe hd hdis ho K hK
       have q0:act.tmps.getD 7 undef=.pointer (some ⟨C,0,none⟩):=ho 7 (by kernel_rfl)
       refine .inl ⟨goes_free rfl,?_⟩
       simp [Oper.wp,execOp,Oper.upon,go_sem,Act.eval,q0]
       exact hK _ [] w' (Below.refl _ _) rfl (fun _ h=>nomatch h)
      ·intro act gs w' hbe hd hdis ho K hK
       have q0:act.tmps.getD 49 undef=.pointer (some ⟨C,1,none⟩):=hd 6 (by rfl)
       have f0:=cell_later hbe l1
       refine .inl ⟨goes_free rfl,?_⟩
       simp [Oper.wp,execOp,Oper.upon,go_sem,Act.eval,q0,f0]
       exact hK _ [] w' (Below.refl _ _) rfl (fun _ h=>nomatch h)
      ·intro act gs w' hbe hd hdis ho K hK
       have q0:act.tmps.getD 10 undef=.int .i64 (v:Int):=ho 10 (by kernel_rfl)
       refine .inl ⟨goes_free rfl,?_⟩
       simp [Oper.wp,execOp,Oper.upon,go_sem,Act.eval,q0]
       exact hK _ [] w' (Below.refl _ _) rfl (fun _ h=>nomatch h)
      ·intro act gs w' hbe hd hdis ho K hK
       have q0:act.tmps.getD 50 undef=.slice (some ⟨G,0,none⟩) (n+1) (n+1):=hd 7 (by rfl)
       have q1:act.tmps.getD 51 undef=.int .i64 (v:Int):=hd 8 (by rfl)
       refine .inl ⟨goes_free rfl,?_⟩
       simp [Oper.wp,execOp,Oper.upon,go_sem,Act.eval,q0,q1,hv2]
       exact hK _ [] w' (Below.refl _ _) rfl (fun _ h=>nomatch h)
      ·intro act gs w' hbe hd hdis ho K hK
       have q0:act.tmps.getD 52 undef=.pointer (some ⟨G,v,none⟩):=hd 9 (by rfl)
       have f0:=cell_later hbe g0
       refine .inl ⟨goes_free rfl,?_⟩
       simp [Oper.wp,execOp,Oper.upon,go_sem,Act.eval,q0,f0]
       exact hK _ [] w' (Below.refl _ _) rfl (fun _ h=>nomatch h)
      ·intro act gs w' hbe hd hdis ho K hK
       have q0:act.tmps.getD 48 undef=.int .i64 c:=hd 5 (by rfl)
       have q1:act.tmps.getD 53 undef=.int .i64 p:=hd 10 (by rfl)
       refine .inl ⟨goes_free rfl,?_⟩
       simp [Oper.wp,execOp,Oper.upon,go_sem,Act.eval,q0,q1,hwc]
       exact hK _ [] w' (Below.refl _ _) rfl (fun _ h=>nomatch h)
      ·intro act gs w' hbe hd hdis ho K hK
       have q0:act.tmps.getD 44 undef=.slice (some ⟨G,0,none⟩) (n+1) (n+1):=hd 1 (by rfl)
       have q1:act.tmps.getD 46 undef=.int .i64 ((v:Int)+1):=hd 3 (by rfl)
       refine .inl ⟨goes_free rfl,?_⟩
       simp [Oper.wp,execOp,Oper.upon,go_sem,Act.eval,q0,q1,hv1,hv3,hlt]
       exact hK _ [] w' (Below.refl _ _) rfl (fun _ h=>nomatch h)
     intro vs gs act w3 hb3 hR _ _ hon hoff hact
     have t36:act.tmps.getD 54 undef=.int .i64 (c+p):=(hon 11 (by decide)).trans (hR 11 (by decide))
     have t37:act.tmps.getD 55 undef=.pointer (some ⟨G,v+1,none⟩):=(hon 12 (by decide)).trans (hR 12 (by decide))
     have x0:=cell_later hb3 g1
     have z0:=(hb3.frozen (p:=⟨G,v+1,none⟩) (World.block_lt_of_cell? _ _ g1)).trans zg
     simp [Oper.wp,execOp,Oper.upon,go_sem,Act.eval,t36,t37,x0,z0]
     have HL3:=Lib.hid ((HLH.out.go hb3).setG (v+1) (c+p))
     rw [HST.out] at HL3
     have HB3:=Lib.hid ((HBH.out.trans (hb3.mono (by have:=HBH.out.size;omega))).setCell (p:=⟨G,v+1,none⟩) HLH.out.g.base.1 (.int .i64 (c+p)))
     rw [hact]
     simp only [puts,dstAt,List.getElem?_cons_zero,List.getElem?_cons_succ,Option.bind_some,Option.getD_some,Act.put,List.length_cons,List.length_nil,Nat.reduceAdd,List.setIfInBounds_toArray,List.set_cons_zero,List.set_cons_succ]
     clear hR hon hoff hact t36 t37 x0 z0 hb3
     generalize (w3.setCell ⟨G,v+1,none⟩ (.int .i64 (c+p)))=w4 at*
     generalize vs 0=y0
     generalize vs 1=y1
     generalize vs 2=y2
     generalize vs 3=y3
     generalize vs 4=y4
     generalize vs 5=y5
     generalize vs 6=y6
     generalize vs 7=y7
     generalize vs 8=y8
     generalize vs 9=y9
     generalize vs 10=y10
     generalize vs 11=y11
     generalize vs 12=y12
     go_wp2
     go_roundg (n-(v+1))
     case measure=>omega
     case rel=>exact ⟨v+1,by omega,Nat.le_refl _,by go_num,HL3.out,HB3.out⟩
    ·obtain rfl:v=n:=by omega
     have HLO:=Lib.hid (cloneO_any (v+1) ((midL (kfE key es) v es.length v).map encI) (some ⟨G,0,none⟩) (v+1) wr (by rw [List.length_map,midL_len,Nat.mul_one]) (by
      obtain ⟨a9,c9,e9,h9⟩:=Cel.of_owns HL.g
      cases e9
      exact h9) (by
      intro u hu
      obtain ⟨x,_,rfl⟩:=List.mem_map.1 hu
      rfl) (by omega) (by omega))
     have l1:=HL.c1
     have hgC:C<wr.heap.size:=World.block_lt_of_cell? _ _ l1
     have hgE:=HL.e.base.2
     have hgG:=HL.g.base.2
     have HZ:=Lib.hid (And.intro hgC (And.intro hgE hgG))
     have HL2:=Lib.hid HL
     have HB2:=Lib.hid HB
     clear HL HB hgC hgE hgG hlt hv hgg
     go_upto_region 13 with (go_at_call 42;refine HLO.out.mono ?_;rintro e w2 ⟨A,ca,rfl,k1,k2⟩;(have HA2:=Lib.hid k1);(have HBA:=Lib.hid k2);clear k1 k2)
     have hAge:=(HA2.out.lt A rfl).1
     have HNE:=Lib.hid (show A≠C∧A≠E∧A≠G by have:=HZ.out;omega)
     have HLA:=Lib.hid (HL2.out.go HBA.out)
     have HBB:=Lib.hid (HB2.out.trans (HBA.out.mono (by have:=HB2.out.size;omega)))
     have HRA:=Lib.hid (show RowI w2 W0.heap.size A (v+1) ca (atL (kfE key es) v es.length 0) by
      rw [←atL_start]
      exact owns_rebase (by
       have h9:=HA2.out
       refine ⟨h9.1,?_⟩
       rcases h9.2 with h10|⟨g',c',cur,h11,h12,h13⟩
       ·exact .inl h10
       ·exact .inr ⟨g',c',cur,h11,Nat.zero_le _,h13⟩) (by have:=HB2.out.size;omega))
     have HEP:=Lib.hid (show EdgP (kfE key es) es.length 0 (List.replicate es.length 0) from ⟨by simp,fun i hi=>absurd hi (Nat.not_lt_zero _)⟩)
     have HCF:=Lib.hid (HC0.out.go (HB0.out.st HBB.out))
     clear l1 hAge HZ HL2 HB2 HA2 HLO
     go_wp2
     go_loopg [62] es.length (fun gg v62 wr=>∃(k:Nat) (xs:List Int),k≤es.length∧es.length-k≤gg∧v62=.int .i64 (k:Int)∧Aside (LdW W0.heap.size wr C E G es.length v xs (midL (kfE key es) v es.length v))∧Aside (EdgP (kfE key es) es.length k xs)∧Aside (RowI wr W0.heap.size A (v+1) ca (atL (kfE key es) v es.length k))∧Aside (Below W0.heap.size W0 wr))
     case atStart=>exact ⟨0,_,Nat.zero_le _,by omega,rfl,HLA.out,HEP.out,HRA.out,HBB.out⟩
     case round=>
      clear HLA HEP HRA HBB
      obtain ⟨k,xs,hk,hgg,rfl,HL,HEP,HRA,HB⟩:=hrel
      by_cases hlt:k<es.length
      ·have hlt3:(k:Int)<(es.length:Int):=by omega
       have hk0:(0:Int)≤(k:Int):=by omega
       obtain ⟨eb,eo,hao,f0,f1,f2⟩:=(HC0.out.go (HB0.out.st HB)).edge hlt
       subst hao
       obtain ⟨hkey,hkn⟩:=HKF.out k hlt
       have HKY:=Lib.hid hkey
       have HST:=Lib.hid (atL_step (kf:=kfE key es) (n:=v) (m:=es.length) (k:=k) hkn)
       have HAT:=Lib.hid (show (atL (kfE key es) v es.length k)[kfE key es k]? =some ((posN (kfE key es) es.length k:Nat):Int) from atL_at (by omega))
       have hpl:=posN_lt (n:=v) hlt (fun i hi=>HKN.out i hi)
       have HEN:=Lib.hid (HEP.step hlt (fun i hi=>HKN.out i hi))
       obtain ⟨u,hu⟩:∃u,u=kfE key es k:=⟨_,rfl⟩
       rw [←hu] at HKY HST HAT hkn
       generalize posN (kfE key es) es.length k=p at*
       have hpl2:(p:Int)<(es.length:Int):=by omega
       have hun:(u:Int)<(v:Int)+1:=by omega
       have hu0:(0:Int)≤(u:Int):=by omega
       have hwc:IntKind.i64.wrap ((p:Int)+1)=(p:Int)+1:=by rw [IntKind.wrap_i64];omega
       have HFK:=Lib.hid (fun W=>HF.out es[k] W)
       rw [←HKY.out] at HFK
       have hen:=HE.out
       unfold Enters at hen
       have HLH:=Lib.hid HL
       have HRH:=Lib.hid HRA
       have HBH:=Lib.hid HB
       clear hu HL HRA HB HEP hkey
       generalize es[k]=x at*
       obtain ⟨ef,et,ew⟩:=x
       simp only at f0 f1 f2
       go_upto_region 16 with (fail)
       obtain ⟨W2,hW2⟩:∃W2,W2=wr.alloc (Obj.cells #[.int .i64 ef,.int .i64 et,.int .u64 ew] 45):=⟨_,rfl⟩
       rw [←hW2]
       have hb2:Below wr.heap.size wr W2:=by rw [hW2];exact Below.of_al _ _
       have b0:W2.cell? ⟨wr.heap.size,0,none⟩=some (.int .i64 ef):=by rw [hW2];go_simp
       have b1:W2.cell? ⟨wr.heap.size,1,none⟩=some (.int .i64 et):=by rw [hW2];go_simp
       have b2:W2.cell? ⟨wr.heap.size,2,none⟩=some (.int .u64 ew):=by rw [hW2];go_simp
       have HLC:=Lib.hid (HLH.out.go hb2)
       have HRC:=Lib.hid (show RowI W2 W0.heap.size A (v+1) ca _ from hp_owns_go HRH.out hb2)
       have HBD:=Lib.hid (HBH.out.trans (hb2.mono (by have:=HBH.out.size;omega)))
       clear f0 f1 f2 hW2 hb2 HLH HRH HBH
       generalize wr.heap.size=eb2 at*
       go_upto_region 17 with (go_at_fn F;refine (HFK.out _).mono ?_;rintro e w5 ⟨rfl,hb5⟩;(have HB5:=Lib.hid hb5);clear hb5)
       have HL5:=Lib.hid (HLC.out.go HB5.out)
       have HR5:=Lib.hid (show RowI w5 W0.heap.size A (v+1) ca _ from hp_owns_go HRC.out HB5.out)
       have HBC:=Lib.hid (HBD.out.trans (HB5.out.mono (by have:=HBD.out.size;omega)))
       have l0:=HL5.out.c0
       have a1:=HR5.out.cell HAT.out
       obtain ⟨x9,hx9⟩:∃x9,xs[p]? =some x9:=⟨_,List.getElem?_eq_getElem (by have h9:=HL5.out.e.len;omega)⟩
       have g1:=HL5.out.e.cell hx9
       have zg:=HL5.out.e.frozenAt p
       clear b0 b1 b2 hx9
       refine wp_region_grows_s 8 _ rfl rfl (valR [.pointer (some ⟨C,0,none⟩),.slice (some ⟨E,0,none⟩) es.length es.length,.slice (some ⟨A,0,none⟩) (v+1) ca,.int .i64 (u:Int),.pointer (some ⟨A,u,none⟩),.int .i64 (p:Int),.int .i64 (k:Int),.pointer (some ⟨E,p,none⟩)]) (by kernel_rfl) (by kernel_rfl) (by kernel_rfl) valR_go ?hopd ?hendd
       case hopd=>
        refine ⟨?_,?_,?_,?_,?_,?_,?_,?_,trivial⟩
        ·intro act gs w' hbe hd hdis ho K hK
         have q0:act.tmps.getD 7 undef=.pointer (some ⟨C,0,none⟩):=ho 7 (by kernel_rfl)
         refine .inl ⟨goes_free rfl,?_⟩
         simp [Oper.wp,execOp,Oper.upon,go_sem,Act.eval,q0]
         exact hK _ [] w' (Below.refl _ _) rfl (fun _ h=>nomatch h)
        ·intro act gs w' hbe hd hdis ho K hK
         have q0:act.tmps.getD 70 undef=.pointer (some ⟨C,0,none⟩):=hd 0 (by rfl)
         have f0:=cell_later hbe l0
         refine .inl ⟨goes_free rfl,?_⟩
         simp [Oper.wp,execOp,Oper.upon,go_sem,Act.eval,q0,f0]
         exact hK _ [] w' (Below.refl _ _) rfl (fun _ h=>nomatch h)
        ·intro act gs w' hbe hd hdis ho K hK
         have q0:act.tmps.getD 11 undef=.slice (some ⟨A,0,none⟩) (v+1) ca:=ho 11 (by kernel_rfl)
         refine .inl ⟨goes_free rfl,?_⟩
         simp [Oper.wp,execOp,Oper.upon,go_sem,Act.eval,q0]
         exact hK _ [] w' (Below.refl _ _) rfl (fun _ h=>nomatch h)
        ·intro act gs w' hbe hd hdis ho K hK
         have q0:act.tmps.getD 14 undef=.int .i64 (u:Int):=ho 14 (by kernel_rfl)
         refine .inl ⟨goes_free rfl,?_⟩
         simp [Oper.wp,execOp,Oper.upon,go_sem,Act.eval,q0]
         exact hK _ [] w' (Below.refl _ _) rfl (fun _ h=>nomatch h)
        ·intro act gs w' hbe hd hdis ho K hK
         have q0:act.tmps.getD 72 undef=.slice (some ⟨A,0,none⟩) (v+1) ca:=hd 2 (by rfl)
         have q1:act.tmps.getD 73 undef=.int .i64 (u:Int):=hd 3 (by rfl)
         refine .inl ⟨goes_free rfl,?_⟩
         simp [Oper.wp,execOp,Oper.upon,go_sem,Act.eval,q0,q1,hun]
         exact hK _ [] w' (Below.refl _ _) rfl (fun _ h=>nomatch h)
        ·intro act gs w' hbe hd hdis ho K hK
         have q0:act.tmps.getD 74 undef=.pointer (some ⟨A,u,none⟩):=hd 4 (by rfl)
         have f0:=cell_later hbe a1
         refine .inl ⟨goes_free rfl,?_⟩
         simp [Oper.wp,execOp,Oper.upon,go_sem,Act.eval,q0,f0]
         exact hK _ [] w' (Below.refl _ _) rfl (fun _ h=>nomatch h)
        ·intro act gs w' hbe hd hdis ho K hK
         have q0:act.tmps.getD 12 undef=.int .i64 (k:Int):=ho 12 (by kernel_rfl)
         refine .inl ⟨goes_free rfl,?_⟩
         simp [Oper.wp,execOp,Oper.upon,go_sem,Act.eval,q0]
         exact hK _ [] w' (Below.refl _ _) rfl (fun _ h=>nomatch h)
        ·intro act gs w' hbe hd hdis ho K hK
         have q0:act.tmps.getD 71 undef=.slice (some ⟨E,0,none⟩) es.length es.length:=hd 1 (by rfl)
         have q1:act.tmps.getD 75 undef=.int .i64 (p:Int):=hd 5 (by rfl)
         refine .inl ⟨goes_free rfl,?_⟩
         simp [Oper.wp,execOp,Oper.upon,go_sem,Act.eval,q0,q1,hpl,hpl2]
         exact hK _ [] w' (Below.refl _ _) rfl (fun _ h=>nomatch h)
       intro vs gs act w3 hb3 hR _ _ hon hoff hact
       have t36:act.tmps.getD 76 undef=.int .i64 (k:Int):=(hon 6 (by decide)).trans (hR 6 (by decide))
       have t37:act.tmps.getD 77 undef=.pointer (some ⟨E,p,none⟩):=(hon 7 (by decide)).trans (hR 7 (by decide))
       have x0:=cell_later hb3 g1
       have z0:=(hb3.frozen (p:=⟨E,p,none⟩) (World.block_lt_of_cell? _ _ g1)).trans zg
       simp [Oper.wp,execOp,Oper.upon,go_sem,Act.eval,t36,t37,x0,z0]
       have HL3:=Lib.hid ((HL5.out.go hb3).setE p (k:Int))
       have HR3:=Lib.hid (row_other (k:=E) (j:=p) (show RowI w3 W0.heap.size A (v+1) ca _ from hp_owns_go HR5.out hb3) HNE.out.2.1 (.int .i64 (k:Int)))
       have HB3:=Lib.hid ((HBC.out.trans (hb3.mono (by have:=HBC.out.size;omega))).setCell (p:=⟨E,p,none⟩) HL5.out.e.base.1 (.int .i64 (k:Int)))
       rw [hact]
       simp only [puts,dstAt,List.getElem?_cons_zero,List.getElem?_cons_succ,Option.bind_some,Option.getD_some,Act.put,List.length_cons,List.length_nil,Nat.reduceAdd,List.setIfInBounds_toArray,List.set_cons_zero,List.set_cons_succ]
       clear hR hon hoff hact t36 t37 x0 z0 hb3 g1 zg l0 a1
       generalize (w3.setCell ⟨E,p,none⟩ (.int .i64 (k:Int)))=w4 at*
       generalize vs 0=y0
       generalize vs 1=y1
       generalize vs 2=y2
       generalize vs 3=y3
       generalize vs 4=y4
       generalize vs 5=y5
       generalize vs 6=y6
       generalize vs 7=y7
       have a1:=HR3.out.cell HAT.out
       have za:=HR3.out.frozenAt u
       have HL4:=Lib.hid (HL3.out.setO (k:=A) HNE.out u (.int .i64 ((p:Int)+1)))
       have HR4:=Lib.hid (HR3.out.put u ((p:Int)+1))
       rw [HST.out] at HR4
       have HB4:=Lib.hid (HB3.out.setCell (p:=⟨A,u,none⟩) HR3.out.base.1 (.int .i64 ((p:Int)+1)))
       go_wp2
       go_roundg (es.length-(k+1))
       case measure=>omega
       case rel=>exact ⟨k+1,_,by omega,Nat.le_refl _,by go_num,HL4.out,HEN.out,HR4.out,HB4.out⟩
      ·obtain rfl:k=es.length:=by omega
       obtain ⟨a9,c9,e9,h9⟩:=Cel.of_owns HL.e
       cases e9
       obtain ⟨a8,c8,e8,h8⟩:=Cel.of_owns HL.g
       cases e8
       have l0:=HL.c0
       have l1:=HL.c1
       obtain ⟨x0,x1,z0,z1⟩:=two_cells ((HB.block w.heap.size (by have:=HZ0.out;omega)).trans HR0.out)
       have hCr:¬w.heap.size=C:=by have:=HL.ge;have:=HZ0.out;omega
       have hEr:¬E=w.heap.size:=by have:=HL.e.base.1;have:=HZ0.out;omega
       have hGr:¬G=w.heap.size:=by have:=HL.g.base.1;have:=HZ0.out;omega
       have r0:((wr.setCell ⟨w.heap.size,0,none⟩ (.slice (some ⟨E,0,none⟩) es.length es.length)).setCell ⟨w.heap.size,1,none⟩ (.slice (some ⟨G,0,none⟩) (v+1) (v+1))).cell? ⟨w.heap.size,0,none⟩=some (.slice (some ⟨E,0,none⟩) es.length es.length):=by
        rw [World.cell?_setCell_other _ _ _ _ (by simp)]
        exact World.cell?_setCell_same _ _ _ x0
       have r1:((wr.setCell ⟨w.heap.size,0,none⟩ (.slice (some ⟨E,0,none⟩) es.length es.length)).setCell ⟨w.heap.size,1,none⟩ (.slice (some ⟨G,0,none⟩) (v+1) (v+1))).cell? ⟨w.heap.size,1,none⟩=some (.slice (some ⟨G,0,none⟩) (v+1) (v+1)):=
        World.cell?_setCell_same (u:=.slice none 0 0) _ _ _ (by rw [World.cell?_setCell_other _ _ _ _ (by simp)];exact x1)
       have HBX:=Lib.hid (show Below w.heap.size w ((wr.setCell ⟨w.heap.size,0,none⟩ (.slice (some ⟨E,0,none⟩) es.length es.length)).setCell ⟨w.heap.size,1,none⟩ (.slice (some ⟨G,0,none⟩) (v+1) (v+1))) from ((HB0.out.st HB).setCell (Nat.le_refl _) _).setCell (Nat.le_refl _) _)
       have HE9:=Lib.hid (show Cel ((wr.setCell ⟨w.heap.size,0,none⟩ (.slice (some ⟨E,0,none⟩) es.length es.length)).setCell ⟨w.heap.size,1,none⟩ (.slice (some ⟨G,0,none⟩) (v+1) (v+1))) (some ⟨E,0,none⟩) (xs.map encI) from by
        intro i u hu
        obtain ⟨b,o,e,h⟩:=h9 i u hu
        cases e
        refine ⟨E,0,rfl,?_⟩
        rw [World.cell?_setCell_far _ _ _ _ (fun e=>hEr e.symm),World.cell?_setCell_far _ _ _ _ (fun e=>hEr e.symm)]
        exact h)
       have HG9:=Lib.hid (show Cel ((wr.setCell ⟨w.heap.size,0,none⟩ (.slice (some ⟨E,0,none⟩) es.length es.length)).setCell ⟨w.heap.size,1,none⟩ (.slice (some ⟨G,0,none⟩) (v+1) (v+1))) (some ⟨G,0,none⟩) ((midL (kfE key es) v es.length v).map encI) from by
        intro i u hu
        obtain ⟨b,o,e,h⟩:=h8 i u hu
        cases e
        refine ⟨G,0,rfl,?_⟩
        rw [World.cell?_setCell_far _ _ _ _ (fun e=>hGr e.symm),World.cell?_setCell_far _ _ _ _ (fun e=>hGr e.symm)]
        exact h)
       have HSE:=Lib.hid (And.intro HL.e.base HL.g.base)
       have HZZ:=HZ0.out
       clear h9 h8 hCr hEr hGr
       go_wp2
       refine bodyPost_ret (by simp [results,Try.results58,go_sem,r0,r1];try rfl) rfl ?_
       exact ⟨E,G,xs,rfl,HEP,HE9.out,HG9.out,HBX.out,⟨by have:=HSE.out.1.1;omega,by have:=HSE.out.1.2;simpa [World.setCell] using this⟩,by have:=HSE.out.2.1;omega,by have:=HSE.out.2.2;simpa [World.setCell] using this⟩
end Go.Proofs.Yteaaapdjplbljaa.Ad
