/- Walks: cmp.Compare, slices.Compare, cmp.Or; path.Less, Cmp, Same. -/
import Derived.Test.YteaaapdjplbljaaProg
import Derived.Test.YteaaapdjplbljaaVa01
import Derived.Deep.RegionWith
import Derived.Deep.RegionHeld3
import Derived.StillTailTactics
set_option linter.unusedVariables false
set_option linter.unusedSimpArgs false
set_option linter.unnecessarySimpa false
namespace Go.Proofs.Yteaaapdjplbljaa
open Go.Proofs Go.RowKit Go.Shelf
def cmpI (a b:Int):Int:=if a<b then -1 else if b<a then 1 else 0
def lexI:List Int→List Int→Int
 |[],[]=>0
 |[],_::_=>-1
 |_::_,[]=>1
 |x::xs,y::ys=>if cmpI x y=0 then lexI xs ys else cmpI x y
theorem cmpI_bd (a b:Int):-1≤cmpI a b∧cmpI a b≤1:=by unfold cmpI;split<;>(try split)<;>omega
theorem cmpI_lt {a b:Int} (h:a<b):cmpI a b= -1:=by unfold cmpI;rw [if_pos h]
theorem cmpI_gt {a b:Int} (h:b<a):cmpI a b=1:=by unfold cmpI;rw [if_neg (by omega),if_pos h]
theorem cmpI_eq {a b:Int} (h:a=b):cmpI a b=0:=by unfold cmpI;rw [if_neg (by omega),if_neg (by omega)]
theorem cmpU64_any (a b:Int) (w:World):
  Calls Try.prog 35 #[.int .u64 a,.int .u64 b] w fun e w'=>e=.returned (.int .i64 (cmpI a b))∧w=w':=by
 have H1:=Lib.hid (@cmpI_lt a b)
 have H2:=Lib.hid (@cmpI_gt a b)
 have H3:=Lib.hid (@cmpI_eq a b)
 generalize cmpI a b=r at*
 have h1:(a != a)=false:=by simp
 have h2:(b != b)=false:=by simp
 go_enter Try.func35,Try.ntmps35
 go_wp2
 all_goals
  go_ret
  first|exact ⟨by rw [H1.out (by omega)];rfl,rfl⟩|exact ⟨by rw [H2.out (by omega)];rfl,rfl⟩|exact ⟨by rw [H3.out (by omega)];rfl,rfl⟩
theorem cmpInt_any (a b:Int) (w:World):
  Calls Try.prog 77 #[.int .i64 a,.int .i64 b] w fun e w'=>e=.returned (.int .i64 (cmpI a b))∧w=w':=by
 have H1:=Lib.hid (@cmpI_lt a b)
 have H2:=Lib.hid (@cmpI_gt a b)
 have H3:=Lib.hid (@cmpI_eq a b)
 generalize cmpI a b=r at*
 have h1:(a != a)=false:=by simp
 have h2:(b != b)=false:=by simp
 go_enter Try.func77,Try.ntmps77
 go_wp2
 all_goals
  go_ret
  first|exact ⟨by rw [H1.out (by omega)];rfl,rfl⟩|exact ⟨by rw [H2.out (by omega)];rfl,rfl⟩|exact ⟨by rw [H3.out (by omega)];rfl,rfl⟩
theorem lex_step {la lb:List Int} {k:Nat} (h1:k<la.length) (h2:k<lb.length):lexI (la.drop k) (lb.drop k)=if cmpI la[k] lb[k]=0 then lexI (la.drop (k+1)) (lb.drop (k+1)) else cmpI la[k] lb[k]:=by
 rw [List.drop_eq_getElem_cons h1,List.drop_eq_getElem_cons h2,lexI]
theorem lex_long {la lb:List Int} {k:Nat} (h1:k<la.length) (h2:lb.length≤k):lexI (la.drop k) (lb.drop k)=1:=by
 rw [List.drop_eq_getElem_cons h1,List.drop_eq_nil_of_le h2,lexI]
theorem lex_end {la lb:List Int} {k:Nat} (h1:la.length≤k) (h2:k≤lb.length) (h3:k=la.length):lexI (la.drop k) (lb.drop k)=if la.length<lb.length then -1 else 0:=by
 rw [List.drop_eq_nil_of_le h1]
 by_cases h:k<lb.length
 ·rw [List.drop_eq_getElem_cons h,lexI,if_pos (by omega)]
 ·rw [List.drop_eq_nil_of_le (by omega),lexI,if_neg (by omega)]
set_option maxHeartbeats 400000 in
theorem lexI_any (ao bo:Option Addr) (ca cb:Nat) (la lb:List Int) (w:World) (hla:la.length≤9223372036854775807) (hlb:lb.length≤9223372036854775807)
  (ha:Cel w ao (la.map encI)) (hb:Cel w bo (lb.map encI)):
  Calls Try.prog 52 #[.slice ao la.length ca,.slice bo lb.length cb] w fun e w'=>e=.returned (.int .i64 (lexI la lb))∧w=w':=by
 have HA:=Lib.hid ha
 have HB:=Lib.hid hb
 have H0:=Lib.hid (show lexI (la.drop 0) (lb.drop 0)=lexI la lb from rfl)
 clear ha hb
 generalize lexI la lb=r at*
 go_enter Try.func52,Try.ntmps52
 go_wp2
 go_loopg [11] la.length (fun g i wr=>∃k:Nat,k≤la.length∧k≤lb.length∧la.length-k≤g∧i=.int .i64 k∧wr=w∧Aside (lexI (la.drop k) (lb.drop k)=r))
 case atStart=>exact ⟨0,by omega,by omega,by omega,rfl,rfl,H0.out⟩
 case round=>
  clear H0
  obtain ⟨k,hk,hkb,hg,rfl,rfl,HR⟩:=hrel
  by_cases hlt:k<la.length
  ·obtain ⟨b1,o1,hao,hc1⟩:=HA.out.at hlt
   subst hao
   by_cases hlb2:k<lb.length
   ·obtain ⟨b2,o2,hbo,hc2⟩:=HB.out.at hlb2
    subst hbo
    have HS:=Lib.hid (lex_step hlt hlb2)
    rw [HR.out] at HS
    generalize la[k]=x at*
    generalize lb[k]=y at*
    have hcb:=cmpI_bd x y
    by_cases hz:cmpI x y=0
    ·have hz2:(cmpI x y != 0)=false:=by simp [hz]
     have HZ:=Lib.hid hz
     clear hz
     generalize hcc:cmpI x y=c at*
     have HCC:=Lib.hid hcc
     clear hcc
     go_wp2_with (go_at_call 77;refine (cmpInt_any x y _).mono ?_;rw [HCC.out];rintro e w1 ⟨rfl,rfl⟩)
     go_roundg (la.length-(k+1))
     case measure=>omega
     case rel=>exact ⟨k+1,by omega,by omega,by omega,by go_num,rfl,by have:=HS.out;rw [if_pos HZ.out] at this;exact this.symm⟩
    ·have hz2:(cmpI x y != 0)=true:=by simp [hz]
     have HZ:=Lib.hid hz
     clear hz
     generalize hcc:cmpI x y=c at*
     have HCC:=Lib.hid hcc
     clear hcc
     go_wp2_with (go_at_call 77;refine (cmpInt_any x y _).mono ?_;rw [HCC.out];rintro e w1 ⟨rfl,rfl⟩)
     go_ret
     exact ⟨by rw [HS.out,if_neg HZ.out];rfl,rfl⟩
   ·have HS:=Lib.hid (lex_long hlt (Nat.le_of_not_lt hlb2))
    rw [HR.out] at HS
    go_wp2
    go_ret
    exact ⟨by rw [HS.out];rfl,rfl⟩
  ·have HS:=Lib.hid (lex_end (Nat.le_of_not_lt hlt) hkb (by omega))
   rw [HR.out] at HS
   by_cases hll:la.length<lb.length
   all_goals
    go_wp2
    go_ret
    first|exact ⟨by rw [HS.out,if_pos hll];rfl,rfl⟩|exact ⟨by rw [HS.out,if_neg hll];rfl,rfl⟩
theorem Less_any (ao bo:Option Addr) (ca cb:Nat) (la lb:List Int) (w:World) (hla:la.length≤9223372036854775807) (hlb:lb.length≤9223372036854775807)
  (ha:Cel w ao (la.map encI)) (hb:Cel w bo (lb.map encI)):
  Calls Try.prog 33 #[.slice ao la.length ca,.slice bo lb.length cb] w fun e w'=>e=.returned (.int .i64 (lexI la lb))∧w=w':=by
 have HC:=Lib.hid (lexI_any ao bo ca cb la lb w hla hlb ha hb)
 clear ha hb
 go_enter Try.func33,Try.ntmps33
 go_wp2_with (go_at_call 52;refine HC.out.mono ?_;rintro e w1 ⟨rfl,rfl⟩)
 go_ret
 exact ⟨rfl,rfl⟩
theorem Or2_any (b o c:Nat) (x y r:Int) (hr:Hid ((if x=0 then y else x)=r)) (w:World) (h1:w.cell? ⟨b,o,none⟩=some (.int .i64 x)) (h2:w.cell? ⟨b,o+1,none⟩=some (.int .i64 y)):
  Calls Try.prog 34 #[.slice (some ⟨b,o,none⟩) 2 c] w fun e w'=>e=.returned (.int .i64 r)∧w=w':=by
 rw [←hr.out]
 clear hr
 have H1:=Lib.hid (fun h:x=0=>(if_pos h:(if x=0 then y else x)=y))
 have H2:=Lib.hid (fun h:¬x=0=>(if_neg h:(if x=0 then y else x)=x))
 generalize (if x=0 then y else x)=r at*
 have H3:=Lib.hid (fun h:y=0=>h)
 by_cases hx:x=0
 ·have HR:=Lib.hid (H1.out hx)
  have hx1:(x != 0)=false:=by simp [hx]
  clear hx
  cases hy1:(y != 0) with
  |false=>
   have HY:=Lib.hid (show y=0 by simpa using hy1)
   go_enter Try.func34,Try.ntmps34
   go_wp2
   refine wp_loop_rounds 3 ?_
   rw [rounds_succ]
   go_wp2
   rw [rounds_succ]
   go_wp2
   rw [rounds_succ]
   go_wp2
   go_ret
   exact ⟨by rw [HR.out,HY.out];rfl,rfl⟩
  |true=>
   go_enter Try.func34,Try.ntmps34
   go_wp2
   refine wp_loop_rounds 2 ?_
   rw [rounds_succ]
   go_wp2
   rw [rounds_succ]
   go_wp2
   go_ret
   exact ⟨by rw [HR.out];rfl,rfl⟩
 ·have HR:=Lib.hid (H2.out hx)
  have hx1:(x != 0)=true:=by simp [hx]
  clear hx
  go_enter Try.func34,Try.ntmps34
  go_wp2
  refine wp_loop_rounds 1 ?_
  rw [rounds_succ]
  go_wp2
  go_ret
  exact ⟨by rw [HR.out];rfl,rfl⟩
def cmpR (wa:Int) (la:List Int) (wb:Int) (lb:List Int):Int:=if cmpI wa wb=0 then lexI la lb else cmpI wa wb
set_option maxHeartbeats 1000000 in
theorem Cmp_any (ao bo:Option Addr) (ca cb:Nat) (la lb:List Int) (wa wb:Int) (w:World) (hla:la.length≤9223372036854775807) (hlb:lb.length≤9223372036854775807)
  (ha:Cel w ao (la.map encI)) (hb:Cel w bo (lb.map encI)):
  Calls Try.prog 20 #[.agg #[.slice ao la.length ca,.int .u64 wa],.agg #[.slice bo lb.length cb,.int .u64 wb]] w fun e w'=>e=.returned (.int .i64 (cmpR wa la wb lb))∧Below w.heap.size w w':=by
 have HA:=Lib.hid ha
 have HB:=Lib.hid hb
 clear ha hb
 unfold cmpR
 have HC:=Lib.hid (fun W h1 h2=>Less_any ao bo ca cb la lb W hla hlb h1 h2)
 have HD:=Lib.hid (fun W=>cmpU64_any wa wb W)
 generalize lexI la lb=y at*
 generalize cmpI wa wb=x at*
 generalize hr:(if x=0 then y else x)=r
 have HR:=Lib.hid hr
 clear hr
 go_enter Try.func20,Try.ntmps20
 go_wp2
 go_region_held3 (fun w'=>w'.cell? ⟨w.heap.size,0,none⟩=some (.slice ao la.length ca)∧w'.cell? ⟨w.heap.size,1,none⟩=some (.int .u64 wa)∧w'.cell? ⟨w.heap.size+1,0,none⟩=some (.slice bo lb.length cb)∧w'.cell? ⟨w.heap.size+1,1,none⟩=some (.int .u64 wb)) (go_keep) (first
  |(go_at_call 33;refine (HC.out _ (HA.out.go (by repeat (first|exact Below.refl _ _|refine Below.al ?_ _|refine Below.dr ?_ _|refine Below.drew ?_|assumption|(refine Below.st ?_ (by assumption))))) (HB.out.go (by repeat (first|exact Below.refl _ _|refine Below.al ?_ _|refine Below.dr ?_ _|refine Below.drew ?_|assumption|(refine Below.st ?_ (by assumption)))))).mono ?_;rintro e w1 ⟨rfl,rfl⟩)
  |(go_at_call 35;refine (HD.out _).mono ?_;rintro e w1 ⟨rfl,rfl⟩)
  |(go_at_call 34;refine (Or2_any _ _ _ x y r HR _ (by go_simp) (by go_simp)).mono ?_;rintro e w1 ⟨rfl,rfl⟩))
 go_wp2
 go_ret
 exact ⟨rfl,by repeat (first|exact Below.refl _ _|refine Below.al ?_ _|refine Below.dr ?_ _|refine Below.drew ?_|assumption|(refine Below.st ?_ (by assumption)))⟩
end Go.Proofs.Yteaaapdjplbljaa
