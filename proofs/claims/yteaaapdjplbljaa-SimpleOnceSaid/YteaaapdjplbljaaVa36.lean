/- Walks: Has; which ways are simple, and the reference's. -/
import Derived.Test.YteaaapdjplbljaaProg
import Derived.Test.YteaaapdjplbljaaVa25
import Derived.Test.YteaaapdjplbljaaVa35
set_option linter.unusedVariables false
set_option linter.unusedSimpArgs false
set_option linter.unnecessarySimpa false
namespace Go.Proofs.Yteaaapdjplbljaa
open Go.Proofs Go.RowKit Go.Shelf Go.Maps
theorem Has_any (ao:Option Addr) (cap:Nat) (l:List Int) (x:Int) (w:World) (hl:l.length≤9223372036854775807) (hc:Cel w ao (l.map encI)):
  Calls Try.prog 27 #[.slice ao l.length cap,.int .i64 x] w fun e w'=>e=.returned (.bool (decide (x∈l)))∧w=w':=by
 have HC:=Lib.hid hc
 clear hc
 have HT:=Lib.hid (fun k (h:k<l.length) (e:l[k]=x)=>(decide_eq_true (e▸List.getElem_mem h):decide (x∈l)=true))
 have HF:=Lib.hid (fun (h:∀j (hj:j<l.length),l[j]≠x)=>(decide_eq_false (fun hm=>by obtain ⟨j,hj,e⟩:=List.getElem_of_mem hm;exact h j hj e):decide (x∈l)=false))
 generalize decide (x∈l)=r at*
 go_enter Try.func27,Try.ntmps27
 go_wp2
 go_loopg [5] l.length (fun g i wr=>∃k:Nat,k≤l.length∧l.length-k≤g∧i=.int .i64 k∧wr=w∧Aside (∀j (hj:j<l.length),j<k→l[j]≠x))
 case atStart=>exact ⟨0,Nat.zero_le _,by omega,rfl,rfl,fun j _ h=>absurd h (Nat.not_lt_zero _)⟩
 case round=>
  obtain ⟨k,hk,hg,rfl,rfl,HA⟩:=hrel
  by_cases hlt:k<l.length
  ·have hlt3:(k:Int)<(l.length:Int):=by omega
   have hk0:(0:Int)≤(k:Int):=by omega
   obtain ⟨b,o,hao,hcell⟩:=HC.out.at hlt
   subst hao
   have H1:=Lib.hid (HT.out k hlt)
   have H2:=Lib.hid (fun h:l[k]≠x=>(fun j (h1:j<l.length) (h2:j<k+1)=>(by
    by_cases e:j=k
    ·subst e;exact h
    ·exact HA.out j h1 (by omega):l[j]≠x)))
   generalize l[k]=y at*
   by_cases e:y=x
   ·have he:(y==x)=true:=by simp [e]
    have HR:=Lib.hid (H1.out e)
    clear e
    go_wp2
    go_ret
    exact ⟨by rw [HR.out];rfl,rfl⟩
   ·have he:(y==x)=false:=by simp [e]
    have HR:=Lib.hid (H2.out e)
    clear e
    go_wp2
    go_roundg (l.length-(k+1))
    case measure=>omega
    case rel=>exact ⟨k+1,by omega,by omega,by go_num,rfl,HR.out⟩
  ·obtain rfl:k=l.length:=by omega
   have HR:=Lib.hid (HF.out fun j hj=>HA.out j hj hj)
   go_wp2
   go_ret
   exact ⟨by rw [HR.out];rfl,rfl⟩
def simpleB (g:GD) (s:Int) (l:List Int):Bool:=match nodesG g s l with|some O=>decide O.Nodup|none=>false
theorem right_node {g:GD} (h:rightG g=0) {e:EdgeD} (he:e∈g.es):0≤e.t∧e.t<g.n:=by
 unfold rightG at h
 split at h
 ·omega
 ·split at h
  ·omega
  ·split at h
   ·omega
   ·rename_i h4
    simp only [List.any_eq_true,not_exists,not_and,Bool.not_eq_true] at h4
    have:=h4 e he
    simp only [looseB,nodeB,Bool.or_eq_false_iff,Bool.not_eq_false',Bool.and_eq_true,decide_eq_true_eq] at this
    exact this.1.2
theorem walkGo_node {g:GD} (h:rightG g=0):∀(l:List Int) (s:Int) (out O:List Int),(∀e∈l,e.toNat<g.es.length)→(∀x∈out,0≤x∧x<g.n)→walkGo g.es s out l=some O→∀x∈O,0≤x∧x<g.n
 |[],_,out,O,_,ho,hw=>by simp [walkGo] at hw;subst hw;exact ho
 |e::r,s,out,O,hl,ho,hw=>by
  unfold walkGo at hw
  have hj:=hl e (by simp)
  have e1:g.es.getD e.toNat edD=g.es[e.toNat]:=by simp [List.getD,hj]
  split at hw
  ·refine walkGo_node h r _ _ O (fun x hx=>hl x (by simp [hx])) ?_ hw
   intro x hx
   rcases List.mem_append.1 hx with hx|hx
   ·exact ho x hx
   ·simp at hx
    subst hx
    rw [←List.getD_eq_getElem?_getD,e1]
    exact right_node h (List.getElem_mem hj)
  ·cases hw
theorem nodesG_node {g:GD} {s:Int} {l O:List Int} (h:nodesG g s l=some O):∀x∈O,0≤x∧x<g.n∧g.n≤4096:=by
 unfold nodesG at h
 split at h
 ·rename_i h1
  simp only [Bool.and_eq_true] at h1
  have h2:=h1.2
  unfold nodeB at h2
  simp only [Bool.and_eq_true,decide_eq_true_eq] at h2
  intro x hx
  have:=walkGo_node (edgesB_right h1.1) l s [s] O (fun e he=>by have:=edgesB_mem h1.1 he;omega) (by simp;exact h2) h x hx
  have:=(rightG_bounds (edgesB_right h1.1))
  omega
 ·cases h
theorem zero_int (w:World):(zeroValue 3).run Try.prog w=.ok (.int .i64 0) w:=by kernel_rfl
theorem law_int:Keyed Try.prog 3:=int_keyed Try.underlying3
set_option maxRecDepth 100000 in
set_option maxHeartbeats 1000000 in
theorem Simple_any (g:GD) (ao bo:Option Addr) (cap cb:Nat) (s:Int) (l:List Int) (w:World) (hl:g.es.length≤9223372036854775807) (hll:l.length≤1099511627776) (hc:Cel w ao (flat g.es)) (hd:Cel w bo (l.map encI)):
  Calls Try.prog 17 #[.agg #[.int .i64 g.n,.slice ao g.es.length cap],.int .i64 s,.slice bo l.length cb] w fun e w'=>e=.returned (.bool (simpleB g s l))∧Below w.heap.size w w':=by
 have HC:=Lib.hid hc
 have HD:=Lib.hid hd
 clear hc hd
 have X1:=Lib.hid (fun W h1 h2=>Nodes_any g ao bo cap cb s l W hl hll h1 h2)
 have hmm:=@run_makeMap Try.prog
 cases hr:nodesG g s l with
 |none=>
  have HR:=Lib.hid (show simpleB g s l=false by unfold simpleB;rw [hr])
  rw [hr] at X1
  generalize simpleB g s l=r at*
  go_enter Try.func17,Try.ntmps17
  go_wp2_with fail
  refine (X1.out _ (HC.out.go (by repeat (first|exact Below.refl _ _|refine Below.al ?_ _|refine Below.dr ?_ _|refine Below.drew ?_|assumption|(refine Below.st ?_ (by assumption))))) (HD.out.go (by repeat (first|exact Below.refl _ _|refine Below.al ?_ _|refine Below.dr ?_ _|refine Below.drew ?_|assumption|(refine Below.st ?_ (by assumption)))))).mono ?_
  rintro e w1 ⟨a1,p1,rfl,hc1,hb1,-⟩
  simp only [Option.isSome_none,Option.getD_none,List.length_nil]
  go_wp2
  refine wp_loop_rounds 1 ?_
  rw [rounds_succ]
  go_wp2
  go_ret
  exact ⟨by rw [HR.out];rfl,by repeat (first|exact Below.refl _ _|refine Below.al ?_ _|refine Below.dr ?_ _|refine Below.drew ?_|assumption|(refine Below.st ?_ (by assumption)))⟩
 |some O=>
  have hO:=nodesG_length hr
  have HN:=Lib.hid (nodesG_node hr)
  have HR:=Lib.hid (show simpleB g s l=decide O.Nodup by unfold simpleB;rw [hr])
  rw [hr] at X1
  clear hr
  generalize simpleB g s l=r at*
  have h2:O.length≤1099511627777:=by omega
  clear hO
  go_enter Try.func17,Try.ntmps17
  go_wp2_with fail
  refine (X1.out _ (HC.out.go (by repeat (first|exact Below.refl _ _|refine Below.al ?_ _|refine Below.dr ?_ _|refine Below.drew ?_|assumption|(refine Below.st ?_ (by assumption))))) (HD.out.go (by repeat (first|exact Below.refl _ _|refine Below.al ?_ _|refine Below.dr ?_ _|refine Below.drew ?_|assumption|(refine Below.st ?_ (by assumption)))))).mono ?_
  rintro e w1 ⟨a1,p1,rfl,hc1,hb1,-⟩
  have HB1:=Lib.hid (show Below w.heap.size w w1 by repeat (first|exact Below.refl _ _|refine Below.al ?_ _|refine Below.dr ?_ _|refine Below.drew ?_|assumption|(refine Below.st ?_ (by assumption))))
  have hs1:w.heap.size≤w1.heap.size:=by have:=HB1.out.size;omega
  have HC1:=Lib.hid (show Cel w1 a1 (O.map encI) from hc1)
  clear hb1 hc1
  simp only [Option.getD_some,Option.isSome_some]
  go_wp2
  go_loopg [22] O.length (fun gg i wr=>∃(k:Nat) (D:DataW Unit),k≤O.length∧O.length-k≤gg∧i=.int .i64 k∧wr.ownsMap Try.prog 3 (plainElem Try.prog 3) w1.heap.size k D∧Aside (SetOf D (O.take k))∧Aside (Below w1.heap.size w1 wr))
  case atStart=>exact ⟨0,.map [],Nat.zero_le _,by omega,rfl,World.ownsMap_made _ _ _ _,setOf_nil,(Below.refl _ _).alloc (Nat.le_refl _) _⟩
  case round=>
   obtain ⟨k,D,hk,hg,rfl,hown,HS,HB⟩:=hrel
   by_cases hlt:k<O.length
   ·have hk0:(0:Int)≤(k:Int):=by omega
    have hlt3:(k:Int)<(O.length:Int):=by omega
    obtain ⟨b,o,hao,hcell⟩:=(HC1.out.go HB.out).at hlt
    subst hao
    have hx:=HN.out _ (List.getElem_mem hlt)
    have H1:=Lib.hid (fun d=>setOf_step (H:=Unit) HS.out hlt d)
    obtain ⟨x,hxe⟩:∃x,O[k]=x:=⟨_,rfl⟩
    rw [hxe] at hcell hx H1
    clear hxe
    have hxw:(Lit.int .i64 x).wf=true:=WalkArith.wf_i64 (by omega)
    have hkey:keyOf Try.prog 3 (.int .i64 x)=some (.int .i64 x):=keyOf_int_mk Try.underlying3 hxw
    go_wp2_with (first
     |(at_lookup;refine wpList_lookup_own_int _ rfl _ _ 60 rfl 3 3 .i64 law_int Try.underlying60 Try.underlying3 (zero_int _) w1.heap.size k _ rfl hown _ _ rfl hkey ?_;intro c hat hwc)
     |(at_mapUpdate;refine wpList_mapUpdate_own _ rfl _ _ _ 60 rfl 3 3 law_int Try.underlying60 _ w1.heap.size k _ rfl hown (by unfold maxLen;omega) _ _ _ rfl rfl hkey _ [] (plainElem_int Try.underlying3 (wrap64_wf _)) ?_;intro w2 hown1 hgrow1))
    have HB2:=Lib.hid (HB.out.grown hgrow1 HB.out.size (fun j hj=>by cases hj;exact Nat.le_refl _))
    go_roundg (O.length-(k+1))
    case measure=>omega
    case rel=>exact ⟨k+1,_,by omega,by omega,by go_num,hown1,H1.out _,HB2.out⟩
   ·obtain rfl:k=O.length:=by omega
    have hsz:=hown.size_le
    have HF:=Lib.hid (show ((size D:Int)==(O.length:Int))=decide O.Nodup by
     have h:=HS.out.2.2.2
     rw [List.take_length] at h
     by_cases hn:O.Nodup
     ·have:=h.2 hn
      simp [hn];omega
     ·have:size D≠O.length:=fun e=>hn (h.1 e)
      simp [hn];omega)
    have hlen:=hown.len Try.underlying60 3
    generalize size D=z at*
    go_wp2
    go_ret
    exact ⟨by rw [HR.out,←HF.out];rfl,HB1.out.trans (HB.out.mono hs1)⟩
theorem Cel.take {α:Type} {w:World} {ao:Option Addr} {l:List α} {enc:α→Value} (h:Cel w ao (l.map enc)) (k:Nat):Cel w ao ((l.take k).map enc):=by
 intro i u hu
 rw [List.map_take] at hu
 by_cases hi:i<k
 ·rw [List.getElem?_take_of_lt hi] at hu
  exact h i u hu
 ·rw [List.getElem?_eq_none (by rw [List.length_take];omega)] at hu
  cases hu
set_option maxRecDepth 100000 in
set_option maxHeartbeats 1000000 in
theorem refSimple_any (g:GD) (ao bo:Option Addr) (cap cb:Nat) (s:Int) (l:List Int) (w:World) (hl:g.es.length≤9223372036854775807) (hll:l.length≤1099511627776) (hc:Cel w ao (flat g.es)) (hd:Cel w bo (l.map encI)):
  Calls Try.prog 12 #[.agg #[.int .i64 g.n,.slice ao g.es.length cap],.int .i64 s,.slice bo l.length cb] w fun e w'=>e=.returned (.bool (simpleB g s l))∧Below w.heap.size w w':=by
 have HC:=Lib.hid hc
 have HD:=Lib.hid hd
 clear hc hd
 have X1:=Lib.hid (fun W h1 h2=>refNodes_any g ao bo cap cb s l W hl hll h1 h2)
 cases hr:nodesG g s l with
 |none=>
  have HR:=Lib.hid (show simpleB g s l=false by unfold simpleB;rw [hr])
  rw [hr] at X1
  generalize simpleB g s l=r at*
  go_enter Try.func12,Try.ntmps12
  go_wp2_with fail
  refine (X1.out _ (HC.out.go (by repeat (first|exact Below.refl _ _|refine Below.al ?_ _|refine Below.dr ?_ _|refine Below.drew ?_|assumption|(refine Below.st ?_ (by assumption))))) (HD.out.go (by repeat (first|exact Below.refl _ _|refine Below.al ?_ _|refine Below.dr ?_ _|refine Below.drew ?_|assumption|(refine Below.st ?_ (by assumption)))))).mono ?_
  rintro e w1 ⟨a1,p1,rfl,hc1,hb1,-⟩
  simp only [Option.isSome_none,Option.getD_none,List.length_nil]
  go_wp2
  refine wp_loop_rounds 1 ?_
  rw [rounds_succ]
  go_wp2
  go_ret
  exact ⟨by rw [HR.out];rfl,by repeat (first|exact Below.refl _ _|refine Below.al ?_ _|refine Below.dr ?_ _|refine Below.drew ?_|assumption|(refine Below.st ?_ (by assumption)))⟩
 |some O=>
  have hO:=nodesG_length hr
  have HR:=Lib.hid (show simpleB g s l=decide O.Nodup by unfold simpleB;rw [hr])
  rw [hr] at X1
  clear hr
  generalize simpleB g s l=r at*
  have h2:O.length≤1099511627777:=by omega
  clear hO
  go_enter Try.func12,Try.ntmps12
  go_wp2_with fail
  refine (X1.out _ (HC.out.go (by repeat (first|exact Below.refl _ _|refine Below.al ?_ _|refine Below.dr ?_ _|refine Below.drew ?_|assumption|(refine Below.st ?_ (by assumption))))) (HD.out.go (by repeat (first|exact Below.refl _ _|refine Below.al ?_ _|refine Below.dr ?_ _|refine Below.drew ?_|assumption|(refine Below.st ?_ (by assumption)))))).mono ?_
  rintro e w1 ⟨a1,p1,rfl,hc1,hb1,hp1⟩
  have HB1:=Lib.hid (show Below w.heap.size w w1 by repeat (first|exact Below.refl _ _|refine Below.al ?_ _|refine Below.dr ?_ _|refine Below.drew ?_|assumption|(refine Below.st ?_ (by assumption))))
  have HC1:=Lib.hid (show Cel w1 a1 (O.map encI) from hc1)
  have hp2:O.length≤p1:=hp1
  clear hb1 hc1 hp1
  simp only [Option.getD_some,Option.isSome_some]
  go_wp2
  go_loopg [9] O.length (fun gg i wr=>∃(k:Nat),k≤O.length∧O.length-k≤gg∧i=.int .i64 k∧Aside (Below w1.heap.size w1 wr)∧Aside ((O.take k).Nodup))
  case atStart=>exact ⟨0,Nat.zero_le _,by omega,rfl,Below.refl _ _,List.nodup_nil⟩
  case round=>
   obtain ⟨k,hk,hg,rfl,HB,HS⟩:=hrel
   by_cases hlt:k<O.length
   ·have hk0:(0:Int)≤(k:Int):=by omega
    have hlt3:(k:Int)<(O.length:Int):=by omega
    have HA:=Lib.hid (HC1.out.go HB.out)
    obtain ⟨b,o,hao,hcell⟩:=HA.out.at hlt
    subst hao
    have XA:=Lib.hid (fun W (h:Cel W (some ⟨b,o,none⟩) (O.map encI))=>(by
     have:=Has_any (some ⟨b,o,none⟩) p1 (O.take k) O[k] W (by rw [List.length_take];omega) (h.take k)
     rw [List.length_take,Nat.min_eq_left (by omega)] at this
     exact this:Calls Try.prog 27 #[.slice (some ⟨b,o,none⟩) k p1,.int .i64 O[k]] W fun e w'=>e=.returned (.bool (decide (O[k]∈O.take k)))∧W=w'))
    have H1:=Lib.hid (fun h:decide (O[k]∈O.take k)=false=>(nodup_take_step hlt).2 ⟨HS.out,by simpa using h⟩)
    have H2:=Lib.hid (fun h:decide (O[k]∈O.take k)=true=>(decide_eq_false (fun hn=>((nodup_take_step hlt).1 (nodup_of_take hn)).2 (by simpa using h)):decide O.Nodup=false))
    generalize decide (O[k]∈O.take k)=m at*
    obtain ⟨x,hxe⟩:∃x,O[k]=x:=⟨_,rfl⟩
    rw [hxe] at hcell XA
    clear hxe
    have f1:=fun p=>cell_ext p hcell
    have HE:=Lib.hid (fun p=>HA.out.go (below_ext _ p))
    go_wp2
    refine wp_region_ext (by kernel_rfl) (by kernel_rfl) ?_
    repeat (go_big_quiet_step ((go_at_call 27;exact Calls.ext_of_same (XA.out _ (HE.out _)))))
    refine wpQuiet_nil ?_
    rintro _ ⟨pq,rfl⟩
    have HBq:=Lib.hid (below_ext wr pq)
    generalize ext wr pq=wq at HBq ⊢
    cases m with
    |true=>
     go_wp2
     go_ret
     exact ⟨by rw [HR.out,H2.out (by trivial)];rfl,(HB1.out.st HB.out).st HBq.out⟩
    |false=>
     go_wp2
     go_roundg (O.length-(k+1))
     case measure=>omega
     case rel=>exact ⟨k+1,by omega,by omega,by go_num,HB.out.st HBq.out,H1.out (by trivial)⟩
   ·obtain rfl:k=O.length:=by omega
    have H1:=Lib.hid (by have:=HS.out;rw [List.take_length] at this;exact decide_eq_true this:decide O.Nodup=true)
    go_wp2
    go_ret
    exact ⟨by rw [HR.out,H1.out];rfl,HB1.out.st HB.out⟩
end Go.Proofs.Yteaaapdjplbljaa
