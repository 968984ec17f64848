/- append of one element onto a row of one's own, which stays what it was. -/
import Derived.Test.YteaaapdjplbljaaVa01
import Derived.Laws.OwnMore
import Derived.Below
set_option linter.unusedVariables false
set_option linter.unusedSimpArgs false
set_option linter.unnecessarySimpa false
namespace Go.Proofs.Yteaaapdjplbljaa
open Go Go.Proofs Go.RowKit Go.Shelf
theorem run_appK {P:Program} {w:World} (t ty:TypeId) (base:Nat) (E:TypeId) (z:Value) (bytes:Nat) (hE:Elem P E z 1 bytes) (ht:P.underlying t=some (.slice E))
  (v:Value) (n:Nat) (xs:List Value) (hown:w.ownsRow base E 1 v n xs) (ad:Addr) (c:Nat) (x:Value) (hx:∀j u,[x][j]? =some u→w.cell? (ad.add j)=some u) (h1:x.oneCell'=true)
  (hl:n+1≤9223372036854775807∧(n+1)*bytes≤140737488355328∧base≤w.heap.size):
  ∃g cap w',(Builtin.append_ #[t,t] ty #[v,.slice (some ad) 1 c]).run P w=.ok (.slice (some ⟨g,0,none⟩) (n+1) cap) w'∧w'.ownsRow base E 1 (.slice (some ⟨g,0,none⟩) (n+1) cap) (n+1) (xs++[x])∧w'.ownsRow base E 1 v n xs∧
   w.grownBy w' v.ownBlock∧(v.ownBlock=some g∨g=w.heap.size)∧g<w'.heap.size:=by
 obtain ⟨hE,hz1,hz2⟩:=hE
 obtain ⟨i,hi,hz,hsz,hby⟩:=info_parts hE
 obtain ⟨l2,l3,l5⟩:=hl
 have h1':∀u∈[x],u.oneCell'=true:=fun u hu=>by obtain rfl:=List.mem_singleton.1 hu;exact h1
 obtain ⟨g,cap,w',hr,ho,hg,hat,hlt⟩:=run_append_lies w t ty base E i z 1 bytes ht hi hz hsz hby hz1 hz2 v n xs hown ad 1 c [x] rfl hx h1' (by omega) (by unfold maxLen;omega) l3 l5 _ rfl
 refine ⟨g,cap,w',hr,ho,?_,hg,hat,hlt⟩
 rcases hown.2 with ⟨rfl,rfl⟩|⟨g0,cap0,cur,rfl,hbg,hg0,hnc,hcm,hcs,htake⟩
 ·have:xs=[]:=List.eq_nil_of_length_eq_zero (by simpa using hown.1)
  subst this
  exact World.ownsRow_nil _ _ _ _
 ·by_cases hroom:n+1≤cap0
  ·have hr2:=run_append_room (P:=P) w t ty E i ht hi g0 n cap0 cur hg0 ad 1 c [x] (by rw [hsz];rfl) hx h1' hroom (by rw [hsz,hcs];simp;omega)
   rw [hr] at hr2
   injection hr2 with h2 h3
   subst h3
   refine ⟨hown.1,.inr ⟨g0,cap0,_,rfl,hbg,setRow_heap w g0 cur _ E _ hg0,hnc,hcm,?_,?_⟩⟩
   ·rw [hsz]
    have hcs':cur.toList.length=cap0:=by rw [Array.length_toList,hcs,Nat.mul_one]
    simp only [List.size_toArray,List.length_append,List.length_take,List.length_drop,List.length_singleton,hcs']
    omega
   ·rw [hsz] at*
    have hxl:xs.length=n*1:=hown.1
    rw [htake,List.append_assoc]
    show List.take (n*1) (xs++_)=xs
    rw [←hxl,List.take_left']
    rfl
  ·have holds:∀j u,xs[j]? =some u→w.cell? ((⟨g0,0,none⟩:Addr).add j)=some u:=hown.cells (g:=g0) rfl
   have hr2:=run_append_grow (P:=P) w t ty E i z ht hi hz ⟨g0,0,none⟩ n cap0 xs (by rw [hsz];exact hown.1) holds ad 1 c [x] (by rw [hsz];rfl) hx (by omega) (by omega) (growslice_fits (by omega) (by rw [hby];exact l3))
   rw [hr] at hr2
   injection hr2 with h2 h3
   subst h3
   exact ⟨hown.1,.inr ⟨g0,cap0,cur,rfl,hbg,(show (w.drew.alloc _).heap[g0]? =w.heap[g0]? by first|exact heap_alloc_old w.drew _ _ (Array.getElem?_eq_some_iff.1 hg0).1|exact heap_alloc_old w.drew _ (Array.getElem?_eq_some_iff.1 hg0).1).trans hg0,hnc,hcm,hcs,htake⟩⟩
end Go.Proofs.Yteaaapdjplbljaa
