/- Walk of tour.Order. -/
import Derived.Test.YteaaapdjplbljaaGreatLyS
import Derived.Test.YteaaapdjplbljaaGreatProg
import Derived.Test.YteaaapdjplbljaaGreatLy04
import Derived.Test.YteaaapdjplbljaaGreatLw12
import Derived.Deep.Cut
set_option linter.unusedVariables false
set_option linter.unusedSimpArgs false
set_option linter.unnecessarySimpa false
namespace Go.Proofs.YteaaapdjplbljaaGreat
open Go Go.Proofs Go.RowKit Go.Shelf Go.Proofs.YteaaapdjplbljaaGreat.Hp Go.Proofs.YteaaapdjplbljaaGreat.Ch Go.Proofs.YteaaapdjplbljaaGreat.To
theorem lit_owns (w:World) (a b:Value) (T:TypeId) (B:Nat) (hB:B≤w.heap.size):(w.alloc (Obj.cells #[a,b] T)).ownsRow B T 1 (.slice (some ⟨w.heap.size,0,none⟩) 2 2) 2 [a,b]:=by
 refine ⟨rfl,.inr ⟨w.heap.size,2,#[a,b],rfl,hB,heap_alloc_new w _,by decide,by decide,rfl,rfl⟩⟩
structure OrS (w W:World) (sv:Value):Prop where
 s:W.heap[w.heap.size]? =some (.cells #[sv] 25)
 b:W.heap[w.heap.size+1]? =some (.cells #[.slice none 0 0] 25)
 l:W.heap[w.heap.size+2]? =some (.cells #[.int .u64 0] 37)
 bl:Below w.heap.size w W
 sz:w.heap.size+3≤W.heap.size
theorem OrS.go {w W W':World} {sv:Value} (h:OrS w W sv) (hz:Below W.heap.size W W'):OrS w W' sv:=by
 have:=h.sz
 exact ⟨(hz.block _ (by omega)).trans h.s,(hz.block _ (by omega)).trans h.b,(hz.block _ (by omega)).trans h.l,h.bl.st hz,Nat.le_trans h.sz hz.size⟩
theorem OrS.of (w:World) (sv:Value):OrS w (((w.alloc (Obj.cells #[sv] 25)).alloc (Obj.cells #[.slice none 0 0] 25)).alloc (Obj.cells #[.int .u64 0] 37)) sv:=by
 have h1:(w.alloc (Obj.cells #[sv] 25)).heap.size=w.heap.size+1:=by simp
 have h2:((w.alloc (Obj.cells #[sv] 25)).alloc (Obj.cells #[.slice none 0 0] 25)).heap.size=w.heap.size+2:=by simp
 refine ⟨?_,?_,?_,((Below.of_al _ _).al _).al _,by simp⟩
 ·rw [heap_alloc_old _ _ (by omega),heap_alloc_old _ _ (by omega)]
  exact heap_alloc_new w _
 ·rw [heap_alloc_old _ _ (by omega),←h1]
  exact heap_alloc_new _ _
 ·rw [←h2]
  exact heap_alloc_new _ _
theorem one_at {W:World} {b k:Nat} {x v:Value} {T:TypeId} (h:W.heap[b]? =some (.cells #[x] T)) (hc:W.cell? ⟨b,k,none⟩=some v):k=0∧v=x:=by
 unfold World.cell? at hc
 simp only [h] at hc
 cases k with
 |zero=>exact ⟨rfl,by simpa using hc.symm⟩
 |succ k=>simp at hc
theorem one_is {W:World} {b:Nat} {x:Value} {T:TypeId} (h:W.heap[b]? =some (.cells #[x] T)):W.cell? ⟨b,0,none⟩=some x∧W.frozen? ⟨b,0,none⟩=false:=by
 constructor
 ·unfold World.cell?;simp [h]
 ·unfold World.frozen?;simp [h]
theorem two_set {W:World} {b:Nat} {x y v v':Value} (h0:W.cell? ⟨b+1,0,none⟩=some v) (h1:W.cell? ⟨b+1+1,0,none⟩=some v'):((W.setCell ⟨b+1,0,none⟩ x).setCell ⟨b+1+1,0,none⟩ y).cell? ⟨b+1,0,none⟩=some x∧((W.setCell ⟨b+1,0,none⟩ x).setCell ⟨b+1+1,0,none⟩ y).cell? ⟨b+1+1,0,none⟩=some y:=by
 constructor
 ·rw [World.cell?_setCell_far _ _ _ _ (show b+1+1≠b+1 by omega)]
  exact World.cell?_setCell_same _ _ _ h0
 ·exact World.cell?_setCell_same (u:=v') _ _ _ (by rw [World.cell?_setCell_far _ _ _ _ (show b+1≠b+1+1 by omega)];exact h1)
set_option maxRecDepth 100000 in
set_option maxHeartbeats 2000000 in
theorem trOrder_bad (hv:Value) (k:Int) (hk:k≠0) (s t:Int) (l:List Int) (ao:Option Addr) (cap:Nat) (w:World) (hc:Cel w ao (l.map encI)) (hl:l.length≤50)
  (hr:∀a c W,Below w.heap.size w W→Cel W a ((s::t::l).map encI)→Calls Tryz.prog 60 #[hv,.slice a (s::t::l).length c] W fun e w'=>e=.returned (.int .i64 k)∧Below W.heap.size W w'):
  Calls Tryz.prog 21 #[hv,.int .i64 s,.slice ao l.length cap,.int .i64 t] w fun e w'=>e=.returned (.tuple #[.slice none 0 0,.int .u64 0,.int .i64 k])∧Below w.heap.size w w':=by
 obtain ⟨W0,hW0⟩:∃W0,W0=((w.alloc (Obj.cells #[.slice ao l.length cap] 25)).alloc (Obj.cells #[.slice none 0 0] 25)).alloc (Obj.cells #[.int .u64 0] 37):=⟨_,rfl⟩
 have hb0:Below w.heap.size w W0:=by rw [hW0];exact ((Below.of_al _ _).al _).al _
 have hz0:W0.heap.size=w.heap.size+3:=by rw [hW0];simp
 have hs0:OrS w W0 (.slice ao l.length cap):=by rw [hW0];exact OrS.of _ _
 have hb1:Below W0.heap.size W0 (W0.alloc (Obj.cells #[.int .i64 s,.int .i64 t] 3)):=Below.of_al _ _
 obtain ⟨a2,c2,w2,hr2,ho2,hb2⟩:=run_appAll (P:=Tryz.prog) (w:=W0.alloc (Obj.cells #[.int .i64 s,.int .i64 t] 3)) 25 25 W0.heap.size 3 _ 8 elem_int Tryz.underlying25 (some ⟨W0.heap.size,0,none⟩) 2 2 [.int .i64 s,.int .i64 t] (lit_owns _ _ _ _ _ (Nat.le_refl _)) ao l.length cap (l.map encI) ((hc.go hb0).go hb1) (fun u hu=>by obtain ⟨x,_,rfl⟩:=List.mem_map.1 hu;rfl) ⟨by simp,by omega,by omega,hb1.size⟩
 have hs2:=(hs0.go (hb1.trans hb2))
 have hc2:Cel w2 a2 ((s::t::l).map encI):=by
  obtain ⟨a',c',e,h⟩:=Cel.of_owns ho2
  cases e
  exact h
 rw [show 2+l.length=(s::t::l).length by simp;omega] at hr2
 have HR2:=Lib.hid hr2
 have HS2:=Lib.hid hs2
 have HR:=Lib.hid (hr a2 c2 w2 hs2.bl hc2)
 have hk1:(k != 0)=true:=by simpa using hk
 have y0:=(one_is (hs0.go hb1).s).1
 have HW:=Lib.hid hW0
 have HZ:=Lib.hid hz0
 have hl2:(l.length:Int)≤50:=by omega
 clear hr2 hs2 hr hc hc2 ho2 hb2 hb1 hs0 hz0 hb0 hW0 hk
 generalize (s::t::l).length=n at*
 go_enter Tryz.func21,Tryz.ntmps21
 go_upto_region 1 with (fail)
 rw [←HW.out]
 have hn1:(w.heap.size+1=w.heap.size+1+1)=False:=eq_false (by omega)
 have hn2:(w.heap.size+1+1=w.heap.size+1)=False:=eq_false (by omega)
 go_wp2_with (first
  |(at_builtin;refine Lib.wpList_append_run _ rfl _ _ _ _ rfl _ _ rfl rfl _ _ HR2.out ?_)
  |(go_at_call 60;refine HR.out.mono ?_;rintro e w3 ⟨rfl,hb3⟩;(have HS3:=Lib.hid (HS2.out.go hb3));(obtain ⟨x0,x1⟩:=one_is HS3.out.b);(obtain ⟨x2,x3⟩:=one_is (b:=w.heap.size+1+1) HS3.out.l);clear hb3))
 obtain ⟨z0,z1⟩:=two_set (x:=.slice none 0 0) (y:=.int .u64 0) x0 x2
 refine bodyPost_ret (v:=.tuple #[.slice none 0 0,.int .u64 0,.int .i64 k]) (by simp [results,Tryz.results21,go_sem,z0,z1];try rfl) rfl ?_
 exact ⟨rfl,(HS3.out.bl.setCell (show w.heap.size≤w.heap.size+1 by omega) _).setCell (show w.heap.size≤w.heap.size+1+1 by omega) _⟩
end Go.Proofs.YteaaapdjplbljaaGreat
