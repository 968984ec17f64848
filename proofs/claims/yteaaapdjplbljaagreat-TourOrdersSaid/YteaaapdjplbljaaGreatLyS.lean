/- Facts that the other texts lean on. -/
import Derived.WalkKit
import Derived.WalkLawsBesides
import Derived.WalkSpells
import Derived.Outline
import Derived.Lib.Hide
import Derived.Shelf.Abstract
import Derived.Deep.LoopGhost
import Derived.Deep.Quiet
import Derived.Deep.QuietTactic
import Derived.BigQuiet
import Derived.Deep.AppendLies
import Derived.Deep.RegionWith
import Derived.Deep.RegionHeld3
import Derived.ScopeJumps
import Derived.Test.YteaaapdjplbljaaGreatLw02
import Derived.Test.YteaaapdjplbljaaGreatLw36
import Derived.Test.YteaaapdjplbljaaGreatLw34
import Derived.Test.YteaaapdjplbljaaGreatLw37
import Derived.Test.YteaaapdjplbljaaGreatProg
set_option linter.unusedVariables false
set_option linter.unusedSimpArgs false
set_option linter.unnecessarySimpa false
section
namespace Go.Proofs.YteaaapdjplbljaaGreat
open Go.Proofs Go.RowKit Go.Shelf
theorem ne_i {x y:Int} (h:(x != y)=true):x≠y:=by simpa using h
theorem eq_i {x y:Int} (h:(x != y)=false):x=y:=by simpa using h
section
variable {P:Program} {a:Act} {w:World} {Q:Exit→Act→World→Prop} {J:Nat→Act→World→Prop}
end
end Go.Proofs.YteaaapdjplbljaaGreat
end
section
namespace Go.Proofs.YteaaapdjplbljaaGreat
open Go.Proofs.YteaaapdjplbljaaGreat.Ch
def MeetAt (A:Int→Int→Int→Prop) (r:Int→Int) (s t d v:Int):Prop:=∃p q,p+q=d∧Peak A r s v p∧Peak (Turn A) r t v q
end Go.Proofs.YteaaapdjplbljaaGreat
end
section
namespace Go.Proofs.YteaaapdjplbljaaGreat
open Go Go.Proofs Go.RowKit Go.Shelf Go.Proofs.YteaaapdjplbljaaGreat.Ch
def MeetRow (A:Int→Int→Int→Prop) (r:Int→Int) (s t d:Int) (k:Nat) (l:List Int):Prop:=l.Pairwise (· <·)∧∀v,v∈l↔(0≤v∧v<(k:Int))∧MeetAt A r s t d v
section
variable {A:Int→Int→Int→Prop} {r:Int→Int} {s t d:Int} {k:Nat} {l:List Int}
theorem MeetRow.zero:MeetRow A r s t d 0 []:=⟨List.Pairwise.nil,fun v=>⟨fun h=>by simp at h,fun h=>by have:=h.1;omega⟩⟩
theorem MeetRow.no (h:MeetRow A r s t d k l) (hm:¬MeetAt A r s t d k):MeetRow A r s t d (k+1) l:=by
 refine ⟨h.1,fun v=>(h.2 v).trans ⟨fun h2=>⟨⟨h2.1.1,by omega⟩,h2.2⟩,fun h2=>⟨⟨h2.1.1,?_⟩,h2.2⟩⟩⟩
 have h1:v≠(k:Int):=fun e=>hm (by rw [←e];exact h2.2)
 omega
end
end Go.Proofs.YteaaapdjplbljaaGreat
end
