/- Walk of package contract: Build. Walk of package hier: is a shortcut an edge, is it two that lie ahead. Walk of package hier: is a shortcut two that lie ahead. Walk of package hier: Made. What is built is made of its graph, in plain Lean. Walk of package hier: clones of hierarchies and of graphs. A hierarchy that is looked up, as it lies in memory, and its methods. -/
import Derived.Test.YteaaapdjplbljaaProg
import Derived.Test.YteaaapdjplbljaaVa14
import Derived.Deep.CutRange
set_option linter.unusedVariables false
set_option linter.unusedSimpArgs false
set_option linter.unnecessarySimpa false
section
namespace Go.Proofs.Yteaaapdjplbljaa
open Go Go.Proofs Go.RowKit Go.Shelf Go.Proofs.Yteaaapdjplbljaa.Hp Go.Proofs.Yteaaapdjplbljaa.Ch
theorem h2_read {W:World} {b:Nat} {a0 a1:Value} (x y:Value) (h0:W.cell? ⟨b,0,none⟩=some a0) (h1:W.cell? ⟨b,1,none⟩=some a1):
  ((W.setCell ⟨b,0,none⟩ x).setCell ⟨b,1,none⟩ y).cell? ⟨b,0,none⟩=some x∧((W.setCell ⟨b,0,none⟩ x).setCell ⟨b,1,none⟩ y).cell? ⟨b,1,none⟩=some y:=by
 constructor
 ·rw [World.cell?_setCell_other _ _ _ _ (by simp)]
  exact World.cell?_setCell_same _ _ _ h0
 ·refine World.cell?_setCell_same (u:=a1) _ _ _ ?_
  rw [World.cell?_setCell_other _ _ _ _ (by simp)]
  exact h1
theorem cel_off {W W':World} {ao:Option Addr} {xs:List Value} {X:Nat→Prop} {n c:Nat} (h:Cel W ao xs) (ho:OffX X W W') (hX:∀k,(Value.slice ao n c).ownBlock=some k→¬X k):Cel W' ao xs:=by
 intro j x hx
 obtain ⟨b,o,e,hc⟩:=h j x hx
 exact ⟨b,o,e,ho.cell hc (hX b (by rw [e];rfl))⟩
end Go.Proofs.Yteaaapdjplbljaa
end
section
namespace Go.Proofs.Yteaaapdjplbljaa
open Go Go.Proofs Go.RowKit Go.Shelf Go.Proofs.Yteaaapdjplbljaa.Hp Go.Proofs.Yteaaapdjplbljaa.Ch
abbrev gV (n:Int) (ao:Option Addr) (m cap:Nat):Value:=.agg #[.int .i64 n,.slice ao m cap]
end Go.Proofs.Yteaaapdjplbljaa
end
section
namespace Go.Proofs.Yteaaapdjplbljaa
open Go Go.Proofs Go.RowKit Go.Shelf Go.Proofs.Yteaaapdjplbljaa.Hp Go.Proofs.Yteaaapdjplbljaa.Ch
end Go.Proofs.Yteaaapdjplbljaa
end
section
namespace Go.Proofs.Yteaaapdjplbljaa
open Go Go.Proofs Go.RowKit Go.Shelf Go.Proofs.Yteaaapdjplbljaa.Hp Go.Proofs.Yteaaapdjplbljaa.Ch
end Go.Proofs.Yteaaapdjplbljaa
end
section
namespace Go.Proofs.Yteaaapdjplbljaa
open Go Go.Proofs Go.RowKit Go.Shelf Go.Proofs.Yteaaapdjplbljaa.Hp Go.Proofs.Yteaaapdjplbljaa.Ch
end Go.Proofs.Yteaaapdjplbljaa
end
section
namespace Go.Proofs.Yteaaapdjplbljaa
open Go Go.Proofs Go.RowKit Go.Shelf Go.Proofs.Yteaaapdjplbljaa.Hp Go.Proofs.Yteaaapdjplbljaa.Ch
theorem one_flat:∀{es:List EdgeD},∀u∈flat es,u.oneCell'=true
 |[],u,h=>by cases h
 |x::es,u,h=>by
  rw [flat] at h
  simp only [List.mem_cons] at h
  rcases h with rfl|rfl|rfl|h
  ·rfl
  ·rfl
  ·rfl
  ·exact one_flat u h
def CGPost (n:Int) (es:List EdgeD) (w:World) (e:Ending) (w':World):Prop:=
 ∃ao ca,e=.returned (.agg #[.int .i64 n,.slice ao es.length ca])∧Cel w' ao (flat es)∧Below w.heap.size w w'∧∀k,(Value.slice ao es.length ca).ownBlock=some k→w.heap.size≤k
theorem cg_next {w W w1 w2:World} {ao:Option Addr} {cap:Nat} {n:Int} {es:List EdgeD} (hb:Below w1.heap.size w1 w2) (h:w1.cell? ⟨w.heap.size,0,none⟩=some (.int .i64 n)∧w1.cell? ⟨w.heap.size,1,none⟩=some (.slice ao es.length cap)∧w1.cell? ⟨w.heap.size+1,0,none⟩=some (.int .i64 0)∧w1.cell? ⟨w.heap.size+1,1,none⟩=some (.slice none 0 0)∧w1.frozen? ⟨w.heap.size+1,0,none⟩=false∧w1.frozen? ⟨w.heap.size+1,1,none⟩=false∧w.heap.size+1<w1.heap.size∧Below W.heap.size W w1):w2.cell? ⟨w.heap.size,0,none⟩=some (.int .i64 n)∧w2.cell? ⟨w.heap.size,1,none⟩=some (.slice ao es.length cap)∧w2.cell? ⟨w.heap.size+1,0,none⟩=some (.int .i64 0)∧w2.cell? ⟨w.heap.size+1,1,none⟩=some (.slice none 0 0)∧w2.frozen? ⟨w.heap.size+1,0,none⟩=false∧w2.frozen? ⟨w.heap.size+1,1,none⟩=false∧w.heap.size+1<w2.heap.size∧Below W.heap.size W w2:=by
 obtain ⟨c0,c1,c2,c3,z0,z1,hs,hz⟩:=h
 exact ⟨cell_later hb c0,cell_later hb c1,cell_later hb c2,cell_later hb c3,(hb.frozen (p:=⟨w.heap.size+1,0,none⟩) hs).trans z0,(hb.frozen (p:=⟨w.heap.size+1,1,none⟩) hs).trans z1,Nat.lt_of_lt_of_le hs hb.size,hz.st hb⟩
set_option maxRecDepth 100000 in
set_option maxHeartbeats 4000000 in
theorem cloneG_any (n:Int) (es:List EdgeD) (ao:Option Addr) (cap:Nat) (w:World) (hc:Cel w ao (flat es)) (hl:es.length≤1000000):
  Calls Try.prog 57 #[gV n ao es.length cap] w (CGPost n es w):=by
 obtain ⟨W,hW⟩:∃W,W=(w.alloc (Obj.cells #[.int .i64 n,.slice ao es.length cap] 24)).alloc (Obj.cells #[.int .i64 0,.slice none 0 0] 24):=⟨_,rfl⟩
 have hbw:Below w.heap.size w W:=by rw [hW];exact (Below.of_al _ _).al _
 have HS0:=Lib.hid (show W.cell? ⟨w.heap.size,0,none⟩=some (.int .i64 n)∧W.cell? ⟨w.heap.size,1,none⟩=some (.slice ao es.length cap)∧W.cell? ⟨w.heap.size+1,0,none⟩=some (.int .i64 0)∧W.cell? ⟨w.heap.size+1,1,none⟩=some (.slice none 0 0)∧W.frozen? ⟨w.heap.size+1,0,none⟩=false∧W.frozen? ⟨w.heap.size+1,1,none⟩=false∧w.heap.size+1<W.heap.size∧Below W.heap.size W W from ⟨by rw [hW];go_simp,by rw [hW];go_simp,by rw [hW];go_simp,by rw [hW];go_simp,by rw [hW];go_simp,by rw [hW];go_simp,by rw [hW];simp,Below.refl _ _⟩)
 have HC1:=Lib.hid (fun W' (hb:Below W.heap.size W W')=>cloneE_any es.length (flat es) ao cap W' (flat_length es) ((hc.go hbw).go hb) one_flat hl)
 have HB:=Lib.hid hbw
 have HW:=Lib.hid hW
 unfold CloPost at HC1
 clear hW hbw hc
 go_enter Try.func57,Try.ntmps57
 go_upto_region 1 with (fail)
 rw [←HW.out]
 obtain ⟨e0,e1,e2,e3,e4,e5,e6,-⟩:=HS0.out
 go_region_with (go_at_call 78;refine (HC1.out _ (Below.refl _ W).drew).mono ?_;rintro e w3 ⟨a1,c1,rfl,h1,hb1,hf1⟩;(have HS3:=Lib.hid (cg_next hb1 (cg_next (Below.refl _ W).drew HS0.out)));(obtain ⟨f0,f1,f2,f3,f4,f5,f6,-⟩:=HS3.out);(have H1:=Lib.hid (And.intro h1 (And.intro hf1 hb1)));clear h1 hf1 hb1)
 all_goals
  go_wp2_with fail
  obtain ⟨r0,r1⟩:=h2_read (.int .i64 n) (.slice a1 es.length c1) f2 f3
  refine bodyPost_ret (v:=.agg #[.int .i64 n,.slice a1 es.length c1]) (by simp [results,Try.results57,go_sem,r0,r1];try rfl) rfl ?_
  obtain ⟨h1,hf1,hb1⟩:=H1.out
  have hW1:W.heap.size=W.drew.heap.size:=rfl
  have hsz1:=hb1.size
  have hsz0:=HB.out.size
  have ho:OffX (· =w.heap.size+1) w3 ((w3.setCell ⟨w.heap.size+1,0,none⟩ (.int .i64 n)).setCell ⟨w.heap.size+1,1,none⟩ (.slice a1 es.length c1)):=
   (show OffX (· =w.heap.size+1) w3 (w3.setCell ⟨w.heap.size+1,0,none⟩ (.int .i64 n)) from .set _ rfl).trans (.set _ rfl)
  have hb4:Below w.heap.size w w3:=HB.out.trans (HS3.out.2.2.2.2.2.2.2.mono (by omega))
  exact ⟨a1,c1,rfl,cel_off h1 ho (fun k hk e=>by have:=hf1 k hk;have e2:k=w.heap.size+1:=e;omega),hb4.trans (ho.below hb4.size (fun k hk=>by have e2:k=w.heap.size+1:=hk;omega)),fun k hk=>by have:=hf1 k hk;omega⟩
end Go.Proofs.Yteaaapdjplbljaa
end
section
namespace Go.Proofs.Yteaaapdjplbljaa
open Go Go.Proofs Go.RowKit Go.Shelf Go.Proofs.Yteaaapdjplbljaa.Hp Go.Proofs.Yteaaapdjplbljaa.Ch
section
variable {W W':World} {hb n:Nat} {es:List EdgeD} {R:List Int} {S:List SC} {O I:List (List Int)}
end
end Go.Proofs.Yteaaapdjplbljaa
end
