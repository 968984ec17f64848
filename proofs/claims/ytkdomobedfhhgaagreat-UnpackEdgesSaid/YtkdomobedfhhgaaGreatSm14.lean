/- The law UnpackShortcuts. -/
import Derived.Test.YtkdomobedfhhgaaGreatProg
import Derived.Test.YtkdomobedfhhgaaGreatSm13
set_option linter.unusedVariables false
set_option linter.unusedSimpArgs false
set_option linter.unnecessarySimpa false
namespace Go.Proofs.YtkdomobedfhhgaaGreat
open Go Go.Proofs Go.RowKit Go.Shelf Go.Proofs.YtkdomobedfhhgaaGreat.Hp Go.Proofs.YtkdomobedfhhgaaGreat.Ch
theorem rAt_in {R:List Int} {n:Nat} (hr:rankB R=true) (hl:R.length=n) (h0:0<n) (v:Int):0≤rAt R v∧rAt R v<(n:Int):=by
 unfold rAt
 by_cases hv:v.toNat<R.length
 ·rw [List.getD_eq_getElem?_getD,List.getElem?_eq_getElem hv]
  have:=rankB_in hr _ (List.getElem_mem hv)
  rw [hl] at this
  exact this
 ·rw [List.getD_eq_getElem?_getD,List.getElem?_eq_none (by omega)]
  show (0:Int)≤0∧(0:Int)<n
  omega
theorem un_edges_ok {S:List SC} {k:Nat} {w w':World} {e:Ending} (hk:k<S.length) (h:UnAllPost S [(k:Int)] w e w'):∃a c,e=.returned (.tuple #[.slice a (unL S k).length c,.bool true])∧Cel w' a ((unL S k).map encI)∧Below w.heap.size w w':=by
 obtain ⟨v,b,out,rfl,k1,k2,k3,k4⟩:=h
 have hb:b=true:=by
  rw [←k3]
  simp only [List.all_cons,List.all_nil,Bool.and_true]
  exact inS_iff.2 ⟨by omega,by omega⟩
 subst hb
 rcases k4 with ⟨_,rfl⟩|⟨k,_⟩
 ·have e:unA S [(k:Int)]=unL S k:=by
   show unL S _++[]=_
   rw [List.append_nil,Int.toNat_natCast]
  rw [e] at k1
  obtain ⟨a,c,rfl,hc⟩:=Cel.of_owns k1
  exact ⟨a,c,rfl,hc,k2⟩
 ·cases k
end Go.Proofs.YtkdomobedfhhgaaGreat
