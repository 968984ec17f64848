/- Walk of slices.Clone at numbers: a clone is one's own. -/
import Derived.Test.YteaaapdjplbljaaProg
import Derived.Test.YteaaapdjplbljaaVa15
set_option linter.unusedVariables false
set_option linter.unusedSimpArgs false
set_option linter.unnecessarySimpa false
namespace Go.Proofs.Yteaaapdjplbljaa
open Go Go.Proofs Go.RowKit Go.Shelf Go.Proofs.Yteaaapdjplbljaa.Hp Go.Proofs.Yteaaapdjplbljaa.Ch
set_option maxRecDepth 100000 in
set_option maxHeartbeats 1000000 in
theorem cloneIO_any (l:List Int) (ao:Option Addr) (cap:Nat) (w:World) (h:Cel w ao (l.map encI)) (hl:l.length≤1000000):
  Calls Try.prog 42 #[.slice ao l.length cap] w fun e w'=>∃v,e=.returned v∧w'.ownsRow w.heap.size 3 1 v l.length (l.map encI)∧Below w.heap.size w w':=by
 by_cases hpos:0<l.length
 ·refine (Ad.cloneO_any l.length (l.map encI) ao cap w (by simp) h (by
   intro u hu
   obtain ⟨x,_,rfl⟩:=List.mem_map.1 hu
   rfl) hl hpos).mono ?_
  rintro e w' ⟨g,c,rfl,h1,h2⟩
  exact ⟨_,rfl,h1,h2⟩
 ·have hn:l=[]:=by
   cases l with
   |nil=>rfl
   |cons a r=>simp at hpos
  subst hn
  clear hpos hl
  have heq:=Lib.run_eql_slice_nil (P:=Try.prog) w 25 3 ao 0 cap 0 0 Try.underlying25
  simp only [List.length_nil]
  cases ao with
  |none=>
   simp only [Option.isNone] at heq
   clear h
   go_enter Try.func42,Try.ntmps42
   go_wp2
   go_ret
   exact ⟨_,rfl,World.ownsRow_nil _ _ _ _,Below.refl _ _⟩
  |some ad=>
   obtain ⟨gb,gof,gi⟩:=ad
   simp only [Option.isNone] at heq
   have hlit:(w.alloc (.cells #[] 3)).ownsRow w.heap.size 3 1 (.slice (some ⟨w.heap.size,0,none⟩) 0 0) 0 []:=World.ownsRow_lit (base:=w.heap.size) (e:=3) (size:=1) w #[] 0 (Nat.le_refl _) (by unfold maxLen;omega) rfl
   obtain ⟨i0,hi,hz0,hsz,hby⟩:=info_parts hp_elemi.1
   have HL:=Lib.hid hlit
   clear hlit h
   go_enter Try.func42,Try.ntmps42
   go_wp2_with (at_builtin;refine wpList_append_own _ rfl _ _ _ rfl w.heap.size 3 i0 (.int .i64 0) 1 8 Try.underlying25 hi hz0 hsz hby rfl (by decide) (.slice (some ⟨w.heap.size,0,none⟩) 0 0) 0 [] rfl HL.out ⟨gb,gof,gi⟩ 0 cap [] rfl rfl (fun j u hj=>by cases hj) (by simp) (by unfold maxLen;omega) (by omega) (by simp) ?_;intro v1 w1 ho1 hg1 hn1)
   have hbl:=(Below.of_al w (.cells #[] 3)).grown hg1 (by simp) (fun k hk=>(HL.out.lt k hk).1)
   rw [Nat.zero_add,List.nil_append] at ho1
   go_ret
   exact ⟨_,rfl,ho1,hbl⟩
end Go.Proofs.Yteaaapdjplbljaa
