/- Walk of package unpack: All, Edges. Walks of packages hier and unpack over what is not made: New gives nil, of which nothing is told. The shortest way, edge by edge: at each node the first edge that lies on one. In plain Lean. -/
import Derived.Test.YtkdomobedfhhgaaGreatProg
import Derived.Test.YtkdomobedfhhgaaGreatSm01
import Derived.Test.YtkdomobedfhhgaaGreatQm26
import Derived.Test.YtkdomobedfhhgaaGreatSm06
import Derived.Test.YtkdomobedfhhgaaGreatSm08
import Derived.Sort.OwnSortedInts
import Derived.Deep.Onto
import Derived.Test.YtkdomobedfhhgaaGreatQm25
import Derived.Test.YtkdomobedfhhgaaGreatSm07
import Derived.Test.YtkdomobedfhhgaaGreatQm17
set_option linter.unusedVariables false
set_option linter.unusedSimpArgs false
set_option linter.unnecessarySimpa false
section
namespace Go.Proofs.YtkdomobedfhhgaaGreat
open Go Go.Proofs Go.RowKit Go.Shelf Go.Proofs.YtkdomobedfhhgaaGreat.Hp Go.Proofs.YtkdomobedfhhgaaGreat.Ch
theorem revO_any (base:Nat) (v:Value) (zs:List Int) (W:World) (h:W.ownsRow base 3 1 v zs.length (zs.map encI)) (hl:zs.length≤1000000):
  Calls Tryz.prog 91 #[v] W fun e w'=>e=.returned (.tuple #[])∧w'.ownsRow base 3 1 v zs.length (zs.reverse.map encI)∧OffX (fun k=>v.ownBlock=some k) W w':=by
 have h0:=h
 obtain ⟨hlen,h2⟩:=h
 rcases h2 with ⟨rfl,hz⟩|⟨g,cap,cur,rfl,hb,hg,h3,h4,h5,h6⟩
 ·have hzs:zs=[]:=by cases zs with|nil=>rfl|cons a r=>simp at hz
  subst hzs
  refine (Tryz.slices_Reverse_int_empty none 0 W).mono ?_
  rintro e w' ⟨rfl,rfl⟩
  exact ⟨rfl,World.ownsRow_nil _ _ _ _,.refl _ _⟩
 ·have hH:Go.Sort.Holds (Value.int .i64) W g 0 zs.toArray:=by
   intro j hj
   have hj2:j<zs.length:=by simpa using hj
   refine ⟨?_,by rw [Nat.zero_add];exact h0.frozenAt j⟩
   rw [Nat.zero_add]
   refine (h0.cellAt j (by omega)).trans ?_
   rw [List.getElem?_map,List.getElem?_eq_getElem hj2,getElem!_pos _ j hj]
   simp
  refine (Tryz.slices_Reverse_int g 0 cap zs W hH (by omega)).mono ?_
  rintro e w' ⟨rfl,n,rfl⟩
  refine ⟨rfl,?_,⟨rfl,rfl,rfl,by rw [Go.Sort.size_putRow];exact Nat.le_refl _,fun k hk hn=>?_⟩⟩
  ·have:=Go.ownsRow_sortedI (n:=n) (os:=#[]) (ss:=zs) (ts:=zs.reverse) (by simp) hb hg h3 h4 h5
   rw [Go.Sort.grow_empty] at this
   exact this
  ·show ((W.heap.modify g _))[k]? =_
   rw [Array.getElem?_modify,if_neg (fun e=>hn (by rw [←e];rfl))]
set_option maxRecDepth 100000 in
set_option maxHeartbeats 1000000 in
theorem cloneIO_any (l:List Int) (ao:Option Addr) (cap:Nat) (w:World) (h:Cel w ao (l.map encI)) (hl:l.length≤1000000):
  Calls Tryz.prog 100 #[.slice ao l.length cap] w fun e w'=>∃v,e=.returned v∧w'.ownsRow w.heap.size 3 1 v l.length (l.map encI)∧Below w.heap.size w w':=by
 by_cases hpos:0<l.length
 ·refine (Ad.cloneO_any l.length (l.map encI) ao cap w (by simp) h (by
   intro u hu
   obtain ⟨x,_,rfl⟩:=List.mem_map.1 hu
   rfl) hl hpos).mono ?_
  rintro e w' ⟨g,c,rfl,h1,h2⟩
  exact ⟨_,rfl,h1,h2⟩
 ·have hn:l=[]:=by
   cases l with
   |nil=>rfl
   |cons a r=>simp at hpos
  subst hn
  clear hpos hl
  have heq:=Lib.run_eql_slice_nil (P:=Tryz.prog) w 25 3 ao 0 cap 0 0 Tryz.underlying25
  simp only [List.length_nil]
  cases ao with
  |none=>
   simp only [Option.isNone] at heq
   clear h
   go_enter Tryz.func100,Tryz.ntmps100
   go_wp2
   go_ret
   exact ⟨_,rfl,World.ownsRow_nil _ _ _ _,Below.refl _ _⟩
  |some ad=>
   obtain ⟨gb,gof,gi⟩:=ad
   simp only [Option.isNone] at heq
   have hlit:(w.alloc (.cells #[] 3)).ownsRow w.heap.size 3 1 (.slice (some ⟨w.heap.size,0,none⟩) 0 0) 0 []:=World.ownsRow_lit (base:=w.heap.size) (e:=3) (size:=1) w #[] 0 (Nat.le_refl _) (by unfold maxLen;omega) rfl
   obtain ⟨i0,hi,hz0,hsz,hby⟩:=info_parts hp_elemi.1
   have HL:=Lib.hid hlit
   clear hlit h
   go_enter Tryz.func100,Tryz.ntmps100
   go_wp2_with (at_builtin;refine wpList_append_own _ rfl _ _ _ rfl w.heap.size 3 i0 (.int .i64 0) 1 8 Tryz.underlying25 hi hz0 hsz hby rfl (by decide) (.slice (some ⟨w.heap.size,0,none⟩) 0 0) 0 [] rfl HL.out ⟨gb,gof,gi⟩ 0 cap [] rfl rfl (fun j u hj=>by cases hj) (by simp) (by unfold maxLen;omega) (by omega) (by simp) ?_;intro v1 w1 ho1 hg1 hn1)
   have hbl:=(Below.of_al w (.cells #[] 3)).grown hg1 (by simp) (fun k hk=>(HL.out.lt k hk).1)
   rw [Nat.zero_add,List.nil_append] at ho1
   go_ret
   exact ⟨_,rfl,ho1,hbl⟩
theorem own_cut {W:World} {base g m cap:Nat} {e:TypeId} {xs:List Value} {x:Value} (h:W.ownsRow base e 1 (.slice (some ⟨g,0,none⟩) (m+1) cap) (m+1) (xs++[x])):W.ownsRow base e 1 (.slice (some ⟨g,0,none⟩) m cap) m xs:=by
 have hl:=h.1
 simp at hl
 refine ⟨by omega,?_⟩
 rcases h.2 with ⟨h1,_⟩|⟨g',c',cur,h1,h2,h3,h4,h5,h6,h7⟩
 ·cases h1
 ·cases h1
  refine .inr ⟨g,cap,cur,rfl,h2,h3,by omega,h5,h6,?_⟩
  have:=congrArg (List.take m) h7
  rw [List.take_take] at this
  rw [Nat.mul_one,show m=min m ((m+1)*1) by omega,this,List.take_append_of_le_length (by omega),List.take_of_length_le (by omega)]
structure AllS (S:List SC) (l:List Int) (M:Nat) (W:World) (vo vs:Value) (out st:List Int) (wr:World):Prop where
 own:wr.ownsRow W.heap.size 3 1 vo out.length (out.map encI)
 ost:wr.ownsRow W.heap.size 3 1 vs st.length (st.map encI)
 dis:∀k,vo.ownBlock=some k→¬vs.ownBlock=some k
 below:Below W.heap.size W wr
 sum:l.all (inS S)=st.all (inS S)
 eq:l.all (inS S)=true→unA S l=out++unA S st.reverse
 len:out.length+unM S st≤M
def UnAllPost (S:List SC) (l:List Int) (W:World) (e:Ending) (w':World):Prop:=
 ∃(v:Value) (b:Bool) (out:List Int),e=.returned (.tuple #[v,.bool b])∧w'.ownsRow W.heap.size 3 1 v out.length (out.map encI)∧Below W.heap.size W w'∧l.all (inS S)=b∧((b=true∧out=unA S l)∨(b=false∧out=[]∧v=.slice none 0 0))
section
variable {S:List SC} {l:List Int} {M:Nat} {W wr w4 w5:World} {vo vs:Value} {out st:List Int} {v:Int}
theorem unM_len (hF:FedS S) (st:List Int):st.length≤unM S st:=by
 induction st with
 |nil=>exact Nat.zero_le _
 |cons a r ih=>
  have:=unW_pos hF a
  have e:unM S (a::r)=unW S a+unM S r:=by simp [unM]
  rw [e,List.length_cons]
  omega
theorem unM_rev (l:List Int):unM S l.reverse=unM S l:=by unfold unM;rw [List.map_reverse,List.sum_reverse]
theorem AllS.start {w1 w2:World} (h1:w1.ownsRow W.heap.size 3 1 vs l.length (l.map encI)) (hb1:Below W.heap.size W w1) (h2:w2.ownsRow W.heap.size 3 1 vs l.length (l.reverse.map encI)) (hb2:OffX (fun k=>vs.ownBlock=some k) w1 w2):AllS S l (unM S l) W (.slice none 0 0) vs [] l.reverse w2:=
 ⟨World.ownsRow_nil _ _ _ _,by rw [List.length_reverse];exact h2,(fun k hk=>by cases hk),hb1.trans (hb2.below hb1.size (fun k e=>(h1.lt k e).1)),by rw [List.all_reverse],fun _=>by simp,by rw [unM_rev];simp⟩
theorem AllS.bad (h:AllS S l M W vo vs out (st++[v]) wr) (hv:inS S v=false):l.all (inS S)=false:=by rw [h.sum];simp [hv]
theorem AllS.go (h:AllS S l M W vo vs out st wr) (hz:Below wr.heap.size wr w4):AllS S l M W vo vs out st w4:=
 ⟨hp_owns_go h.own hz,hp_owns_go h.ost hz,h.dis,h.below.st hz,h.sum,h.eq,h.len⟩
theorem AllS.edge {g cap g5 cap5:Nat} (h:AllS S l M W vo (.slice (some ⟨g,0,none⟩) (st.length+1) cap) out (st++[v]) wr) (hv:inS S v=true) (he:0≤(S.getD v.toNat scZ).e) (hz:Below wr.heap.size wr w4)
  (hown:w5.ownsRow W.heap.size 3 1 (.slice (some ⟨g5,0,none⟩) (out.length+1) cap5) (out.length+1) (out.map encI++[.int .i64 (S.getD v.toNat scZ).e])) (hgr:w4.grownBy w5 vo.ownBlock) (hat:vo.ownBlock=some g5∨g5=w4.heap.size):
  AllS S l M W (.slice (some ⟨g5,0,none⟩) (out.length+1) cap5) (.slice (some ⟨g,0,none⟩) st.length cap) (out++[(S.getD v.toNat scZ).e]) st w5∧unM S (st++[v])=unM S st+1:=by
 have h4:=h.go hz
 have hw:unW S v=1:=by unfold unW;rw [if_pos hv,unL_edge he];rfl
 have hm:unM S (st++[v])=unM S st+1:=by rw [unM_snoc,hw]
 have ho:=h4.ost
 rw [List.length_append,List.length_singleton,List.map_append] at ho
 have hoc:=own_cut ho
 have hgl:=h4.ost.lt g rfl
 refine ⟨⟨by rw [List.length_append,List.map_append];exact hown,owns_eqb hoc (fun k hk=>hgr.block k (hoc.lt k hk).2 ?_),?_,h4.below.grown hgr h4.below.size (fun k hk=>(h4.own.lt k hk).1),?_,?_,?_⟩,hm⟩
 ·intro e
  exact h4.dis k e.symm hk
 ·intro k hk e
  cases hk
  obtain rfl:g=g5:=Option.some.inj e
  rcases hat with h1|h1
  ·exact h4.dis _ h1 rfl
  ·omega
 ·rw [h.sum];simp [hv]
 ·intro hl
  rw [h.eq hl,List.reverse_append]
  simp [unA,unL_edge he]
 ·have:=h.len
  rw [hm] at this
  rw [List.length_append,List.length_singleton]
  omega
theorem AllS.two {g cap g5 cap5:Nat} (hF:FedS S) (h:AllS S l M W vo (.slice (some ⟨g,0,none⟩) (st.length+1) cap) out (st++[v]) wr) (hv:inS S v=true) (he:¬0≤(S.getD v.toNat scZ).e) (hz:Below wr.heap.size wr w4)
  (hown:w5.ownsRow W.heap.size 3 1 (.slice (some ⟨g5,0,none⟩) (st.length+2) cap5) (st.length+2) (st.map encI++[.int .i64 (S.getD v.toNat scZ).b,.int .i64 (S.getD v.toNat scZ).a])) (hgr:w4.grownBy w5 (some g)) (hat:some g=some g5∨g5=w4.heap.size):
  AllS S l M W vo (.slice (some ⟨g5,0,none⟩) (st.length+2) cap5) out (st++[(S.getD v.toNat scZ).b,(S.getD v.toNat scZ).a]) w5∧unM S (st++[v])=unM S (st++[(S.getD v.toNat scZ).b,(S.getD v.toNat scZ).a])+1:=by
 have h4:=h.go hz
 have hi:=inS_iff.1 hv
 have hvl:v.toNat<S.length:=by omega
 rcases hF v.toNat hvl with h1|⟨h0,a,b,ea,eb,ha,hb⟩
 ·exact absurd h1 he
 have ia:inS S (a:Int)=true:=inS_iff.2 ⟨by omega,by omega⟩
 have ib:inS S (b:Int)=true:=inS_iff.2 ⟨by omega,by omega⟩
 have hu:=unL_two hF hvl h0 ea eb ha hb
 have la:=unL_ne hF a (by omega)
 have lb:=unL_ne hF b (by omega)
 have hm:unM S (st++[v])=unM S (st++[(S.getD v.toNat scZ).b,(S.getD v.toNat scZ).a])+1:=by
  rw [unM_snoc,ea,eb,show st++[(b:Int),(a:Int)]=(st++[(b:Int)])++[(a:Int)] by simp,unM_snoc,unM_snoc]
  unfold unW
  rw [if_pos hv,if_pos ia,if_pos ib,hu,List.length_append,Int.toNat_natCast,Int.toNat_natCast]
  omega
 have hgl:=h4.ost.lt g rfl
 refine ⟨⟨owns_eqb h4.own (fun k hk=>hgr.block k (h4.own.lt k hk).2 ?_),by rw [List.length_append,List.map_append];exact hown,?_,h4.below.grown hgr h4.below.size (fun k hk=>by cases hk;exact hgl.1),?_,?_,?_⟩,hm⟩
 ·intro e
  exact h4.dis k hk e.symm
 ·intro k hk e
  obtain rfl:g5=k:=Option.some.inj e
  rcases hat with h1|h1
  ·obtain rfl:g=g5:=Option.some.inj h1
   exact h4.dis _ hk rfl
  ·have:=(h4.own.lt _ hk).2
   omega
 ·rw [h.sum,ea,eb];simp [hv,ia,ib]
 ·intro hl
  rw [h.eq hl,List.reverse_append,List.reverse_append,ea,eb]
  simp [unA,hu]
 ·have:=h.len
  omega
end
theorem un_two (w:World) (x y:Value) (T:TypeId) {k:Nat} (hk:k=w.heap.size):∀j u,[x,y][j]? =some u→(w.alloc (.cells #[x,y] T)).cell? ((⟨k,0,none⟩:Addr).add j)=some u:=by
 intro j u hu
 subst hk
 rw [Addr.add_lit]
 have:=World.cell?_alloc_mark w #[x,y] T (0,0) (0+j)
 rw [this]
 simpa using hu
theorem un_one (w:World) (x:Value) (T:TypeId) {k:Nat} (hk:k=w.heap.size):∀j u,[x][j]? =some u→(w.alloc (.cells #[x] T)).cell? ((⟨k,0,none⟩:Addr).add j)=some u:=by
 intro j u hu
 subst hk
 rw [Addr.add_lit]
 have:=World.cell?_alloc_mark w #[x] T (0,0) (0+j)
 rw [this]
 simpa using hu
theorem un_twos (x y:Int):∀u∈[Value.int .i64 x,.int .i64 y],u.oneCell'=true:=by
 intro u hu
 simp at hu
 rcases hu with rfl|rfl<;>rfl
def UaJ (hb:Nat) (S:List SC) (l:List Int) (M:Nat) (W:World) (mm l0:Nat) (a:Act) (wr:World):Prop:=
 l0=0∧∃u,a=lit 52 u∧u 0=.pointer (some ⟨hb,0,none⟩)∧Aside (∃out st,AllS S l M W (u 4) (u 6) out st wr∧unM S st≤mm)
set_option maxRecDepth 100000 in
set_option maxHeartbeats 4000000 in
theorem all_any (hb n:Nat) (es:List EdgeD) (R:List Int) (S:List SC) (O I:List (List Int)) (hF:FedS S) (l:List Int) (ao:Option Addr) (cap:Nat) (w:World) (hH:HierM w hb n es R S O I) (hc:Cel w ao (l.map encI)) (hl:l.length≤60000) (hM:unM S l≤200000)
  (hb9:∀x∈S,-1≤x.e∧x.e≤1000000∧-1≤x.a∧x.a≤1000000∧-1≤x.b∧x.b≤1000000):
  Calls Tryz.prog 59 #[.pointer (some ⟨hb,0,none⟩),.slice ao l.length cap] w (UnAllPost S l w):=by
 have HH:=Lib.hid (fun W (hz:Below w.heap.size w W)=>hH.go hz)
 have HSS:=Lib.hid hH.small
 have HCL:=Lib.hid (cloneIO_any l ao cap w hc (by omega))
 have HM:=Lib.hid hM
 have HL:=Lib.hid hl
 have H9:=Lib.hid hb9
 have HF:=Lib.hid hF
 clear hH hc hM hb9 hF hl
 go_enter Tryz.func59,Tryz.ntmps59
 repeat go_step
 refine wp_scope_into 0 (unM S l) (UaJ hb S l (unM S l) w) rfl ?_ ?_ ?_ ?_
 ·rintro m m' l0 a w' hle ⟨h1,u,h2,h3,out,st,h4,h5⟩
  exact ⟨h1,u,h2,h3,out,st,h4,Nat.le_trans h5 hle⟩
 ·intro hcont
  have HCONT:=Lib.hid hcont
  clear hcont
  go_wp2_with (go_at_call 100;refine HCL.out.mono ?_;rintro e w1 ⟨v6,rfl,h1,h2⟩;(have HO1:=Lib.hid h1);(have HB1:=Lib.hid h2);clear h1 h2)
  have HRV:=Lib.hid (revO_any w.heap.size v6 l w1 HO1.out (by have:=HL.out;omega))
  go_wp2_with (go_at_call 91;refine HRV.out.mono ?_;rintro e w2 ⟨rfl,h1,h2⟩;(have HO2:=Lib.hid h1);(have HB2:=Lib.hid h2);clear h1 h2)
  go_step3
  first
   |refine HCONT.out _ _ ?_
   |(go_step;refine HCONT.out _ _ ?_)
   |(go_step;go_step;refine HCONT.out _ _ ?_)
  exact ⟨rfl,_,lit_of 52 _ rfl rfl,rfl,[],l.reverse,AllS.start HO1.out HB1.out HO2.out HB2.out,by rw [unM_rev];exact Nat.le_refl _⟩
 ·rintro mm a wr ⟨-,u,rfl,h0,hA⟩
  obtain ⟨out,st,hs,hmm⟩:=hA
  simp only [lit,List.range,List.range.loop,List.map_cons,List.map_nil,h0]
  obtain ⟨v4,hv4⟩:∃v4,v4=u 4:=⟨_,rfl⟩
  obtain ⟨v6,hv6⟩:∃v6,v6=u 6:=⟨_,rfl⟩
  rw [←hv4,←hv6] at hs ⊢
  have HS:=Lib.hid hs
  have HMM:=Lib.hid hmm
  have HLN:=Lib.hid (And.intro (show out.length≤200000 by have:=hs.len;have:=HM.out;omega) (show st.length≤200000 by have:=hs.len;have:=HM.out;have:=unM_len HF.out st;omega))
  clear hs hmm hv4 hv6 h0
  rcases List.eq_nil_or_concat st with rfl|⟨st',v,hst⟩
  ·obtain ⟨ao6,cap6,e6,-⟩:=Cel.of_owns HS.out.ost
   subst e6
   simp only [List.length_nil]
   go_wp2
   simp only [jumps_ret]
   refine bodyPost_ret (v:=.tuple #[v4,.bool true]) (by simp [results,Tryz.results59,go_sem];try rfl) rfl ?_
   have ht:l.all (inS S)=true:=by rw [HS.out.sum];rfl
   exact ⟨_,_,out,rfl,HS.out.own,HS.out.below,ht,.inl ⟨rfl,by rw [HS.out.eq ht];simp [unA]⟩⟩
  ·rw [List.concat_eq_append] at hst
   subst hst
   obtain ⟨g,cap6,e6⟩:=own_form HS.out.ost (by simp)
   rw [List.length_append,List.length_singleton] at e6
   subst e6
   have HC:=Lib.hid (show wr.cell? ⟨g,st'.length,none⟩=some (.int .i64 v) by
    have ho:=HS.out.ost
    rw [List.length_append,List.length_singleton] at ho
    refine (ho.cellAt st'.length (by omega)).trans ?_
    rw [List.getElem?_map,List.getElem?_append_right (Nat.le_refl _),Nat.sub_self]
    rfl)
   obtain ⟨m,hm⟩:∃m,m=st'.length:=⟨_,rfl⟩
   rw [←hm] at HC ⊢
   have hm2:m≤200000:=by have:=HLN.out.2;simp at this;omega
   have hm0:(0:Int)≤(m:Int):=by omega
   have hm1:(m:Int)<(m:Int)+1:=by omega
   have hm3:((m:Int)+1==0)=false:=by rw [beq_eq_false_iff_ne];omega
   have hm4:(m:Int)+1-1=(m:Int):=by omega
   have hm5:(m:Int)≤200000:=by omega
   have hmc:m≤cap6:=by
    have ho:=HS.out.ost
    rw [List.length_append,List.length_singleton] at ho
    have:=owns_cap ho
    omega
   have HMM2:=Lib.hid hm
   clear hm
   have hc:=HC.out
   cases hin:inS S v with
   |false=>
    have HN:=Lib.hid (HS.out.bad hin)
    have HSC:=Lib.hid (shortcut_none hb n es R S O I wr (HH.out wr HS.out.below) v (by
     rcases Classical.em (0≤v∧v<(S.length:Int)) with h|h
     ·rw [inS_iff.2 h] at hin;cases hin
     ·omega))
    simp only [scV,scZ] at HSC
    clear hin
    go_wp2_with (go_at_call 40;refine HSC.out.mono ?_;rintro e w1 ⟨rfl,hb1⟩;(have HB1:=Lib.hid hb1);clear hb1)
    simp only [jumps_ret]
    refine bodyPost_ret (v:=.tuple #[.slice none 0 0,.bool false]) (by simp [results,Tryz.results59,go_sem];try rfl) rfl ?_
    exact ⟨_,_,[],rfl,World.ownsRow_nil _ _ _ _,HS.out.below.st (HB1.out.st (Below.of_al _ _)),HN.out,.inr ⟨rfl,rfl,rfl⟩⟩
   |true=>
    obtain ⟨k,rfl⟩:∃k:Nat,v=k:=⟨v.toNat,by have:=inS_iff.1 hin;omega⟩
    have hk:k<S.length:=by have:=inS_iff.1 hin;omega
    have HIN:=Lib.hid hin
    have hgk:S.getD k scZ=S[k]:=by rw [List.getD_eq_getElem?_getD,List.getElem?_eq_getElem hk];rfl
    have HSC:=Lib.hid (shortcut_any hb n es R S O I wr (HH.out wr HS.out.below) k hk)
    obtain ⟨p1,p2,p3,p4,p5,p6⟩:=H9.out _ (List.getElem_mem hk)
    obtain ⟨X,hX⟩:∃X,X=S[k]:=⟨_,rfl⟩
    rw [←hX] at HSC p1 p2 p3 p4 p5 p6 hgk
    have HG:=Lib.hid (show S.getD ((k:Int)).toNat scZ=X by rw [Int.toNat_natCast];exact hgk)
    clear hin hX hgk
    obtain ⟨xf,xt,xw,xe,xa,xb⟩:=X
    simp only [scV] at HSC p1 p2 p3 p4 p5 p6
    by_cases he:0≤xe
    ·have he1:decide (0≤xe)=true:=by simpa using he
     have HE:=Lib.hid he
     clear he
     go_wp2_with (first
      |(go_at_call 40;refine HSC.out.mono ?_;rintro e w1 ⟨rfl,hb1⟩;(have HB1:=Lib.hid hb1);clear hb1)
      |(at_builtin;refine wpList_app w.heap.size 3 _ 1 8 hp_elemi Tryz.underlying25 v4 out.length _ ⟨w1.heap.size+1,0,none⟩ 1 1 [.int .i64 xe] rfl rfl (World.ownsRow.alloc (World.ownsRow.alloc (hp_owns_go HS.out.own HB1.out) _) _) (un_one _ _ _ (by simp)) (one_cells rfl) ⟨rfl,by decide,(by have:=HLN.out.1;omega),(by have:=HLN.out.1;omega),(by have:=HS.out.below.size;have:=HB1.out.size;simp;omega)⟩ ?_;intro g5 cap5 w5 hown5 hgrow5 hbl5 hat5 hlt5;(have HO5:=Lib.hid hown5);(have HG5:=Lib.hid hgrow5);(have HAT5:=Lib.hid hat5);clear hown5 hgrow5 hbl5 hat5 hlt5))
     go_step3
     repeat go_step
     rw [jumps_goto]
     have hm:=HMM2.out
     subst hm
     have hz:Below wr.heap.size wr ((w1.alloc (Obj.cells #[.int .i64 xf,.int .i64 xt,.int .u64 xw,.int .i64 xe,.int .i64 xa,.int .i64 xb] 79)).alloc (Obj.cells #[.int .i64 xe] 3)):=(HB1.out.st (Below.of_al _ _)).st (Below.of_al _ _)
     have HE2:=HS.out.edge HIN.out (by rw [HG.out];exact HE.out) hz (by rw [HG.out];exact HO5.out) HG5.out HAT5.out
     rw [HG.out] at HE2
     exact ⟨unM S st',by have:=HE2.2;have:=HMM.out;omega,rfl,_,lit_of 52 _ rfl rfl,rfl,_,_,HE2.1,Nat.le_refl _⟩
    ·have he1:decide (0≤xe)=false:=by simpa using he
     have HE:=Lib.hid he
     clear he
     have hcap:∀(W:World),Below wr.heap.size wr W→W.ownsRow w.heap.size 3 1 (.slice (some ⟨g,0,none⟩) m cap6) m (st'.map encI):=by
      intro W hz
      have ho:=hp_owns_go HS.out.ost hz
      rw [List.length_append,List.length_singleton,List.map_append] at ho
      rw [HMM2.out]
      exact own_cut ho
     have HCP:=Lib.hid hcap
     clear hcap
     go_wp2_with (first
      |(go_at_call 40;refine HSC.out.mono ?_;rintro e w1 ⟨rfl,hb1⟩;(have HB1:=Lib.hid hb1);clear hb1)
      |(at_builtin;refine wpList_app w.heap.size 3 _ 1 8 hp_elemi Tryz.underlying25 (.slice (some ⟨g,0,none⟩) m cap6) m _ ⟨w1.heap.size+1,0,none⟩ 2 2 [.int .i64 xb,.int .i64 xa] rfl rfl (World.ownsRow.alloc (World.ownsRow.alloc (HCP.out _ HB1.out) _) _) (un_two _ _ _ _ (by simp)) (un_twos _ _) ⟨rfl,by decide,(by omega),(by omega),(by have:=HS.out.below.size;have:=HB1.out.size;simp;omega)⟩ ?_;intro g5 cap5 w5 hown5 hgrow5 hbl5 hat5 hlt5;(have HO5:=Lib.hid hown5);(have HG5:=Lib.hid hgrow5);(have HAT5:=Lib.hid hat5);clear hown5 hgrow5 hbl5 hat5 hlt5))
     go_step3
     repeat go_step
     rw [jumps_goto]
     have hm:=HMM2.out
     subst hm
     have hz:Below wr.heap.size wr ((w1.alloc (Obj.cells #[.int .i64 xf,.int .i64 xt,.int .u64 xw,.int .i64 xe,.int .i64 xa,.int .i64 xb] 79)).alloc (Obj.cells #[.int .i64 xb,.int .i64 xa] 3)):=(HB1.out.st (Below.of_al _ _)).st (Below.of_al _ _)
     have HE2:=HS.out.two HF.out HIN.out (by rw [HG.out];show ¬0≤xe;have:=HE.out;omega) hz (by rw [HG.out];exact HO5.out) HG5.out HAT5.out
     rw [HG.out] at HE2
     exact ⟨_,by have:=HE2.2;have:=HMM.out;omega,rfl,_,lit_of 52 _ rfl rfl,rfl,_,_,HE2.1,Nat.le_refl _⟩
 ·rintro mm l0 a w' hne ⟨h,_⟩
  exact absurd h hne
set_option maxRecDepth 100000 in
set_option maxHeartbeats 1000000 in
theorem unEdges_any (hb n:Nat) (es:List EdgeD) (R:List Int) (S:List SC) (O I:List (List Int)) (hF:FedS S) (i:Int) (w:World) (hH:HierM w hb n es R S O I) (hM:unM S [i]≤200000)
  (hb9:∀x∈S,-1≤x.e∧x.e≤1000000∧-1≤x.a∧x.a≤1000000∧-1≤x.b∧x.b≤1000000):
  Calls Tryz.prog 49 #[.pointer (some ⟨hb,0,none⟩),.int .i64 i] w (UnAllPost S [i] w):=by
 have HA:=Lib.hid (all_any hb n es R S O I hF [i] (some ⟨w.heap.size,0,none⟩) 1 (w.alloc (.cells #[.int .i64 i] 3)) (hH.go (Below.of_al _ _)) (by
  intro j u hj
  match j,hj with
  |0,hj=>exact ⟨w.heap.size,0,rfl,by cases hj;simp⟩
  |j+1,hj=>simp at hj) (by simp) hM hb9)
 simp only [List.length_singleton] at HA
 clear hH hM hb9
 go_enter Tryz.func49,Tryz.ntmps49
 go_wp2_with (go_at_call 59;refine HA.out.mono ?_;rintro e w1 ⟨v,b,out,rfl,h1,h2,h3,h4⟩)
 refine bodyPost_ret (v:=.tuple #[v,.bool b]) (by simp [results,Tryz.results49,go_sem];try rfl) rfl ?_
 exact ⟨v,b,out,rfl,World.ownsRow.mono h1 (Below.of_al w _).size,(Below.of_al w _).trans (h2.mono (Below.of_al w _).size),h3,h4⟩
end Go.Proofs.YtkdomobedfhhgaaGreat
end
section
namespace Go.Proofs.YtkdomobedfhhgaaGreat
open Go Go.Proofs Go.RowKit Go.Shelf Go.Proofs.YtkdomobedfhhgaaGreat.Hp Go.Proofs.YtkdomobedfhhgaaGreat.Ch
set_option maxRecDepth 100000 in
set_option maxHeartbeats 4000000 in
theorem new_bad (g:GD) (n:Nat) (R:List Int) (S:List SC) (ao ro so:Option Addr) (cap rc sc:Nat) (w:World) (hn:g.n=(n:Int)∨rightG g≠0) (hc:Cel w ao (flat g.es)) (hr:Cel w ro (R.map encI)) (hS:Cel w so (flatS S)) (hl:g.es.length≤1000000) (hrl:R.length≤1000000) (hsl:S.length≤1000000) (hsc:S.length≤sc)
  (hm:(madeR g R S).2=false):
  Calls Tryz.prog 54 #[gV g.n ao g.es.length cap,.agg #[.slice ro R.length rc,.slice so S.length sc]] w fun e w'=>(∃k:Int,k≠0∧e=.returned (.tuple #[.pointer none,.int .i64 k]))∧Below w.heap.size w w':=by
 obtain ⟨W,hW⟩:∃W,W=(w.alloc (Obj.cells #[.int .i64 g.n,.slice ao g.es.length cap] 24)).alloc (Obj.cells #[.slice ro R.length rc,.slice so S.length sc] 45):=⟨_,rfl⟩
 have hbw:Below w.heap.size w W:=by rw [hW];exact (Below.of_al _ _).al _
 have c0:W.cell? ⟨w.heap.size,0,none⟩=some (.int .i64 g.n):=by rw [hW];go_simp
 have c1:W.cell? ⟨w.heap.size,1,none⟩=some (.slice ao g.es.length cap):=by rw [hW];go_simp
 have d0:W.cell? ⟨w.heap.size+1,0,none⟩=some (.slice ro R.length rc):=by rw [hW];go_simp
 have d1:W.cell? ⟨w.heap.size+1,1,none⟩=some (.slice so S.length sc):=by rw [hW];go_simp
 have HMD:=Lib.hid (made_any g n R S ao ro so cap rc sc W hn (hc.go hbw) (hr.go hbw) (hS.go hbw) hl hrl hsl hsc)
 have HB:=Lib.hid hbw
 have HW:=Lib.hid hW
 unfold MadePost at HMD
 rcases h2:madeR g R S with ⟨a,b⟩
 rw [h2] at hm
 simp only at hm
 subst hm
 simp only [h2] at HMD
 clear hW hbw hc hr hS h2
 by_cases ha:a= -2
 ·subst ha
  go_enter Tryz.func54,Tryz.ntmps54
  go_upto_region 1 with (fail)
  rw [←HW.out]
  go_wp2_with (go_at_call 96;refine HMD.out.mono ?_;rintro e w1 ⟨rfl,hb1⟩;(have HB1:=Lib.hid (HB.out.st hb1));clear hb1)
  refine bodyPost_ret (v:=.tuple #[.pointer none,.int .i64 1]) (by simp [results,Tryz.results54,go_sem];try rfl) rfl ?_
  exact ⟨⟨1,by decide,rfl⟩,HB1.out⟩
 ·have ha2:(a== -2)=false:=by simpa using ha
  clear ha
  go_enter Tryz.func54,Tryz.ntmps54
  go_upto_region 1 with (fail)
  rw [←HW.out]
  go_wp2_with (go_at_call 96;refine HMD.out.mono ?_;rintro e w1 ⟨rfl,hb1⟩;(have HB1:=Lib.hid (HB.out.st hb1));clear hb1)
  refine bodyPost_ret (v:=.tuple #[.pointer none,.int .i64 4]) (by simp [results,Tryz.results54,go_sem];try rfl) rfl ?_
  exact ⟨⟨4,by decide,rfl⟩,HB1.out⟩
theorem unSize_nil (w:World):Calls Tryz.prog 48 #[.pointer none] w fun e w'=>e=.returned (.int .i64 0)∧w=w':=by
 go_enter Tryz.func48,Tryz.ntmps48
 go_wp2
 go_ret
 exact ⟨rfl,rfl⟩
set_option maxRecDepth 100000 in
theorem shortcut_nil (i:Int) (w:World):Calls Tryz.prog 40 #[.pointer none,.int .i64 i] w fun e w'=>e=.returned (.tuple #[scV scZ,.bool false])∧Below w.heap.size w w':=by
 have HN:=Lib.hid (unSize_nil (w.alloc (Obj.cells #[.int .i64 0,.int .i64 0,.int .u64 0,.int .i64 0,.int .i64 0,.int .i64 0] 79)))
 by_cases h0:i<0
 ·go_enter Tryz.func40,Tryz.ntmps40
  go_wp2
  refine bodyPost_ret (v:=.tuple #[scV scZ,.bool false]) (by simp [results,Tryz.results40,go_sem,scZ];try rfl) rfl ?_
  exact ⟨rfl,Below.of_al _ _⟩
 ·have h1:(0:Int)≤i:=by omega
  go_enter Tryz.func40,Tryz.ntmps40
  go_wp2_with (go_at_call 48;refine HN.out.mono ?_;rintro e w1 ⟨rfl,rfl⟩)
  refine bodyPost_ret (v:=.tuple #[scV scZ,.bool false]) (by simp [results,Tryz.results40,go_sem,scZ];try rfl) rfl ?_
  exact ⟨rfl,Below.of_al _ _⟩
set_option maxRecDepth 100000 in
set_option maxHeartbeats 1000000 in
theorem unDepth_nil (i:Int) (w:World):Calls Tryz.prog 56 #[.pointer none,.int .i64 i] w fun e w'=>e=.returned (.tuple #[.int .i64 0,.bool false])∧Below w.heap.size w w':=by
 have HSC:=Lib.hid (shortcut_nil i w)
 simp only [scV,scZ] at HSC
 go_enter Tryz.func56,Tryz.ntmps56
 go_wp2_with (go_at_call 40;refine HSC.out.mono ?_;rintro e w1 ⟨rfl,hb1⟩;(have HB1:=Lib.hid hb1);clear hb1)
 refine bodyPost_ret (v:=.tuple #[.int .i64 0,.bool false]) (by simp [results,Tryz.results56,go_sem];try rfl) rfl ?_
 exact ⟨rfl,HB1.out.st (Below.of_al _ _)⟩
set_option maxRecDepth 100000 in
set_option maxHeartbeats 1000000 in
theorem unDepth_none (hb n:Nat) (es:List EdgeD) (R:List Int) (S:List SC) (O I:List (List Int)) (i:Int) (hi:i<0∨(S.length:Int)≤i) (w:World) (hH:HierM w hb n es R S O I):Calls Tryz.prog 56 #[.pointer (some ⟨hb,0,none⟩),.int .i64 i] w fun e w'=>e=.returned (.tuple #[.int .i64 0,.bool false])∧Below w.heap.size w w':=by
 have HSC:=Lib.hid (shortcut_none hb n es R S O I w hH i hi)
 simp only [scV,scZ] at HSC
 clear hH hi
 go_enter Tryz.func56,Tryz.ntmps56
 go_wp2_with (go_at_call 40;refine HSC.out.mono ?_;rintro e w1 ⟨rfl,hb1⟩;(have HB1:=Lib.hid hb1);clear hb1)
 refine bodyPost_ret (v:=.tuple #[.int .i64 0,.bool false]) (by simp [results,Tryz.results56,go_sem];try rfl) rfl ?_
 exact ⟨rfl,HB1.out.st (Below.of_al _ _)⟩
def UnJ (w:World) (i:Int) (mm l0:Nat) (a:Act) (wr:World):Prop:=
 l0=0∧∃u,a=lit 52 u∧u 0=.pointer none∧Aside (wr.ownsRow w.heap.size 3 1 (u 6) 1 [encI i]∧Below w.heap.size w wr)
set_option maxRecDepth 100000 in
set_option maxHeartbeats 4000000 in
theorem unAll_nil (i:Int) (ao:Option Addr) (cap:Nat) (w:World) (hc:Cel w ao [encI i]):
  Calls Tryz.prog 59 #[.pointer none,.slice ao 1 cap] w fun e w'=>e=.returned (.tuple #[.slice none 0 0,.bool false])∧Below w.heap.size w w':=by
 have HCL:=Lib.hid (cloneIO_any [i] ao cap w hc (by simp))
 simp only [List.length_singleton,List.map_cons,List.map_nil] at HCL
 clear hc
 go_enter Tryz.func59,Tryz.ntmps59
 repeat go_step
 refine wp_scope_into 0 0 (UnJ w i) rfl ?_ ?_ ?_ ?_
 ·rintro m m' l0 a w' hle h
  exact h
 ·intro hcont
  have HCONT:=Lib.hid hcont
  clear hcont
  go_wp2_with (go_at_call 100;refine HCL.out.mono ?_;rintro e w1 ⟨v6,rfl,h1,h2⟩;(have HO1:=Lib.hid h1);(have HB1:=Lib.hid h2);clear h1 h2)
  have HRV:=Lib.hid (revO_any w.heap.size v6 [i] w1 HO1.out (by simp))
  go_wp2_with (go_at_call 91;refine HRV.out.mono ?_;rintro e w2 ⟨rfl,h1,h2⟩;(have HO2:=Lib.hid h1);(have HB2:=Lib.hid (HB1.out.trans (h2.below HB1.out.size (fun k hk=>(HO1.out.lt k hk).1))));clear h1 h2)
  go_step3
  first
   |refine HCONT.out _ _ ?_
   |(go_step;refine HCONT.out _ _ ?_)
   |(go_step;go_step;refine HCONT.out _ _ ?_)
  exact ⟨rfl,_,lit_of 52 _ rfl rfl,rfl,HO2.out,HB2.out⟩
 ·rintro mm a wr ⟨-,u,rfl,h0,hA⟩
  simp only [lit,List.range,List.range.loop,List.map_cons,List.map_nil,h0]
  obtain ⟨v6,hv6⟩:∃v6,v6=u 6:=⟨_,rfl⟩
  rw [←hv6] at hA ⊢
  have HO:=Lib.hid hA.1
  have HB:=Lib.hid hA.2
  clear hA hv6 h0
  obtain ⟨g,cap6,e6⟩:=own_form HO.out (by simp)
  subst e6
  have hc:wr.cell? ⟨g,0,none⟩=some (.int .i64 i):=HO.out.cellAt 0 (by omega)
  have hc1:1≤cap6:=owns_cap HO.out
  have HSC:=Lib.hid (fun W=>shortcut_nil i W)
  simp only [scV,scZ] at HSC
  go_wp2_with (go_at_call 40;refine (HSC.out _).mono ?_;rintro e w1 ⟨rfl,hb1⟩;(have HB1:=Lib.hid hb1);clear hb1)
  simp only [jumps_ret]
  refine bodyPost_ret (v:=.tuple #[.slice none 0 0,.bool false]) (by simp [results,Tryz.results59,go_sem];try rfl) rfl ?_
  exact ⟨rfl,HB.out.st (HB1.out.st (Below.of_al _ _))⟩
 ·rintro mm l0 a w' hne ⟨h,_⟩
  exact absurd h hne
set_option maxRecDepth 100000 in
set_option maxHeartbeats 1000000 in
theorem unEdges_nil (i:Int) (w:World):Calls Tryz.prog 49 #[.pointer none,.int .i64 i] w fun e w'=>e=.returned (.tuple #[.slice none 0 0,.bool false])∧Below w.heap.size w w':=by
 have HA:=Lib.hid (unAll_nil i (some ⟨w.heap.size,0,none⟩) 1 (w.alloc (.cells #[.int .i64 i] 3)) (by
  intro j u hj
  match j,hj with
  |0,hj=>exact ⟨w.heap.size,0,rfl,by cases hj;simp⟩
  |j+1,hj=>simp at hj))
 go_enter Tryz.func49,Tryz.ntmps49
 go_wp2_with (go_at_call 59;refine HA.out.mono ?_;rintro e w1 ⟨rfl,h2⟩)
 refine bodyPost_ret (v:=.tuple #[.slice none 0 0,.bool false]) (by simp [results,Tryz.results49,go_sem];try rfl) rfl ?_
 exact ⟨rfl,(Below.of_al w _).trans (h2.mono (Below.of_al w _).size)⟩
end Go.Proofs.YtkdomobedfhhgaaGreat
end
section
namespace Go.Proofs.YtkdomobedfhhgaaGreat.Ro
open Go.Proofs.YtkdomobedfhhgaaGreat Go.Proofs.YtkdomobedfhhgaaGreat.Ch
def edZ:EdgeD:=⟨0,0,0⟩
def goodE (D:Int→Int) (e:EdgeD):Prop:=D e.t<4611686018427387904∧D e.t+e.w=D e.f
def FirstE (es:List EdgeD) (D:Int→Int) (v:Int) (i:Nat):Prop:=∃h:i<es.length,es[i].f=v∧goodE D es[i]∧∀j (hj:j<es.length),j<i→es[j].f=v→¬goodE D es[j]
theorem FirstE.uniq {es:List EdgeD} {D:Int→Int} {v:Int} {i j:Nat} (h:FirstE es D v i) (k:FirstE es D v j):i=j:=by
 obtain ⟨h1,h2,h3,h4⟩:=h
 obtain ⟨k1,k2,k3,k4⟩:=k
 rcases Nat.lt_trichotomy i j with e|e|e
 ·exact absurd h3 (k4 i h1 e h2)
 ·exact e
 ·exact absurd k3 (h4 j k1 e k2)
inductive RP (es:List EdgeD) (D:Int→Int):Int→List Int→Prop
 |stop {v:Int} (h:D v=0):RP es D v []
 |go {v:Int} {i:Nat} {l:List Int} (h:FirstE es D v i) (h0:D v≠0) (hr:RP es D (es.getD i edZ).t l):RP es D v ((i:Int)::l)
theorem RP.uniq {es:List EdgeD} {D:Int→Int} {v:Int} {l:List Int} (h:RP es D v l):∀{l'},RP es D v l'→l=l':=by
 induction h with
 |stop h=>
  intro l' k
  cases k with
  |stop _=>rfl
  |go _ h0 _=>exact absurd h h0
 |go h h0 hr ih=>
  intro l' k
  cases k with
  |stop h'=>exact absurd h' h0
  |go h' _ hr'=>
   obtain rfl:=h.uniq h'
   rw [ih hr']
def Seg (es:List EdgeD) (D:Int→Int) (s:Int) (l:List Int) (v:Int):Prop:=∀r,RP es D v r→RP es D s (l++r)
theorem Seg.start {es:List EdgeD} {D:Int→Int} (s:Int):Seg es D s [] s:=fun r h=>h
theorem Seg.step {es:List EdgeD} {D:Int→Int} {s v:Int} {l:List Int} {i:Nat} (h:Seg es D s l v) (hf:FirstE es D v i) (h0:D v≠0):Seg es D s (l++[(i:Int)]) (es.getD i edZ).t:=fun r hr=>by
 have:=h _ (.go hf h0 hr)
 rwa [List.append_assoc]
theorem Seg.stop {es:List EdgeD} {D:Int→Int} {s v:Int} {l:List Int} (h:Seg es D s l v) (h0:D v=0):RP es D s l:=by
 have:=h [] (.stop h0)
 rwa [List.append_nil] at this
theorem FarV.turn {A:Int→Int→Int→Prop} {s v x:Int} (h:FarV (Turn A) s v x):FarV A v s x:=by
 rcases h with ⟨h1,h2⟩|⟨h1,h2⟩
 ·exact .inl ⟨h1.turn,h2⟩
 ·exact .inr ⟨h1,fun e h=>h2 e h.turn⟩
def ToD (es:List EdgeD) (n:Nat) (t:Int) (D:Int→Int):Prop:=∀v,nodeN n v→FarV (arcG es) v t (D v)
theorem next_some {es:List EdgeD} {n:Nat} {t:Int} {D:Int→Int} (hA:∀u v w,arcG es u v w→nodeN n u∧nodeN n v∧1≤w) (hD:ToD es n t D) {v:Int} (hv:nodeN n v) (h0:D v≠0) (hF:D v<4611686018427387904):
  ∃i,FirstE es D v i:=by
 obtain ⟨hd,hn,_⟩:=(hD v hv).lt hF
 have hne:v≠t:=fun e=>by
  subst e
  exact h0 (hd.uniq (Dist.self (fun u v w h=>(hA u v w h).2.2) v))
 obtain ⟨m,w,h1,h2⟩:=Dist.pred hd.turn (fun e=>hne e.symm)
 have h1':arcG es v m w:=h1
 have h2':Dist (arcG es) m t (D v-w):=h2.turn
 obtain ⟨e,he,e1,e2,e3⟩:=h1'
 have hm:=(hA v m w ⟨e,he,e1,e2,e3⟩).2
 have hx:0≤D v-w:=h2'.1.nonneg (fun u v w h=>(hA u v w h).2.2)
 have hDm:D m=D v-w:=by
  rcases hD m hm.1 with ⟨k1,_⟩|⟨_,k2⟩
  ·exact k1.uniq h2'
  ·exact absurd h2'.1 (k2 _)
 have hgood:goodE D e:=by
  unfold goodE
  rw [e1,e2,e3,hDm]
  omega
 obtain ⟨i,hi,ei⟩:=List.getElem_of_mem he
 have key:∀k i (hi:i<es.length),i≤k→es[i].f=v→goodE D es[i]→∃j,FirstE es D v j:=by
  intro k
  induction k with
  |zero=>
   intro i hi hk h3 h4
   have:i=0:=by omega
   subst this
   exact ⟨0,hi,h3,h4,fun j _ hj=>by omega⟩
  |succ k ih=>
   intro i hi hk h3 h4
   by_cases hex:∃j,∃hj:j<es.length,j<i∧es[j].f=v∧goodE D es[j]
   ·obtain ⟨j,hj,h5,h6,h7⟩:=hex
    exact ih j hj (by omega) h6 h7
   ·exact ⟨i,hi,h3,h4,fun j hj h5 h6 h7=>hex ⟨j,hj,h5,h6,h7⟩⟩
 exact key i i hi (Nat.le_refl _) (by rw [ei];exact e1) (by rw [ei];exact hgood)
theorem first_of {es:List EdgeD} {D:Int→Int} {v:Nat} {pre:List Int} {i:Nat} {suf:List Int} (hn:∀e∈es,0≤e.f) (h:Ad.idxN (fun i=>(es.getD i edZ).f.toNat) es.length v=pre++(i:Int)::suf) (hg:goodE D (es.getD i edZ)) (hp:∀j:Nat,(j:Int)∈pre→¬goodE D (es.getD j edZ)):FirstE es D (v:Int) i:=by
 have hmem:(i:Int)∈Ad.idxN (fun i=>(es.getD i edZ).f.toNat) es.length v:=by rw [h];simp
 obtain ⟨i',e,hi,hk⟩:=Ad.idxN_mem.1 hmem
 have:i'=i:=by omega
 subst this
 have e1:∀{j} (hj:j<es.length),es.getD j edZ=es[j]:=fun hj=>by simp [List.getD,hj]
 have hf:es[i'].f=(v:Int):=by
  have:=hn _ (List.getElem_mem hi)
  rw [e1 hi] at hk
  omega
 refine ⟨hi,hf,by rw [←e1 hi];exact hg,fun j hj hji hjf hjg=>?_⟩
 have hjm:(j:Int)∈Ad.idxN (fun i=>(es.getD i edZ).f.toNat) es.length v:=Ad.idxN_mem.2 ⟨j,rfl,hj,by rw [e1 hj,hjf];rfl⟩
 have hsort:=Ad.idxN_asc (fun i=>(es.getD i edZ).f.toNat) v es.length
 rw [h] at hjm hsort
 rcases List.mem_append.1 hjm with hm|hm
 ·exact hp j hm (by rw [e1 hj];exact hjg)
 ·rcases List.mem_cons.1 hm with hm|hm
  ·omega
  ·have h1:=(List.pairwise_append.1 hsort).2.1
   have h2:=(List.pairwise_cons.1 h1).1 _ hm
   omega
theorem none_of {es:List EdgeD} {D:Int→Int} {v:Nat} (h:∀j:Nat,(j:Int)∈Ad.idxN (fun i=>(es.getD i edZ).f.toNat) es.length v→¬goodE D (es.getD j edZ)):¬∃i,FirstE es D (v:Int) i:=by
 rintro ⟨i,hi,h1,h2,_⟩
 have e1:es.getD i edZ=es[i]:=by simp [List.getD,hi]
 exact h i (Ad.idxN_mem.2 ⟨i,rfl,hi,by rw [e1,h1];rfl⟩) (by rw [e1];exact h2)
theorem rds_some {L:List Arc} {s:Int} {n:Nat} {W B:Int} (hg:Ch.Good L n W) (hW:0≤W) (hs:node n s) (hB:(L.length:Int)*W≤B) (hm:4097*B+W<FAR):∀k:Nat,k≤4097→∃d c,Rds L s n k B d c
 |0,_=>⟨_,_,Rds.start L B hs⟩
 |k+1,hk=>by
  obtain ⟨d,c,h⟩:=rds_some hg hW hs hB hm k (by omega)
  exact ⟨_,_,h.go hg hW hs hB (by omega) hm⟩
theorem toD_some {es:List EdgeD} {n:Nat} {t:Int} (hA:∀u v w,arcG es u v w→nodeN n u∧nodeN n v∧1≤w∧w≤4294967296) (ht:nodeN n t) (hn:n≤12) (hes:es.length≤40):∃D,ToD es n t D:=by
 have hg:=arcs_good (es:=es) (n:=n) (back:=true) (no:=[]) hA
 have hl:((arcsC es true []).length:Int)≤40:=by have:=arcs_len (es:=es) (back:=true) (no:=[]);omega
 have hB:((arcsC es true []).length:Int)*4294967296≤171798691840:=by omega
 have hF:FAR=4611686018427387904:=rfl
 obtain ⟨d,c,h⟩:=rds_some hg (by omega) (s:=t) ht hB (by omega) (n+1) (by omega)
 have hk:((n+1:Nat):Int)*171798691840≤1152921504606846976:=by omega
 have hal:AllIs es n t true [] d:=Exact.is (h.done hg (.inr (by omega))) h.so hg (by simp) hk
 refine ⟨gD d,fun v hv=>?_⟩
 have:=AllIs.far (back:=true) (fun u v w h=>(hA v u w (show arcG es v u w from h)).2.2.1) hal hv
 exact FarV.turn this
theorem RP.congr {es:List EdgeD} {n:Nat} {D D':Int→Int} (hN:∀e∈es,nodeN n e.f∧nodeN n e.t) (hD:∀v,nodeN n v→D v=D' v) {v:Int} {l:List Int} (h:RP es D v l):nodeN n v→RP es D' v l:=by
 induction h with
 |stop h=>exact fun hv=>.stop (by rw [←hD _ hv];exact h)
 |go h h0 hr ih=>
  intro hv
  obtain ⟨hi,h1,h2,h3⟩:=h
  rename_i v i l
  have e:es.getD i edZ=es[i]:=by simp [List.getD,hi]
  have gd:∀e∈es,goodE D e↔goodE D' e:=fun e he=>by
   have:=hN e he
   unfold goodE
   rw [hD _ this.1,hD _ this.2]
  refine .go ⟨hi,h1,(gd _ (List.getElem_mem hi)).1 h2,fun j hj a b c=>h3 j hj a b ((gd _ (List.getElem_mem hj)).2 c)⟩ (by rw [←hD _ hv];exact h0) (ih ?_)
  rw [e]
  exact (hN _ (List.getElem_mem hi)).2
theorem ToD.uniq {es:List EdgeD} {n:Nat} {t:Int} {D D':Int→Int} (h:ToD es n t D) (h':ToD es n t D'):∀v,nodeN n v→D v=D' v:=fun v hv=>(h v hv).uniq (h' v hv)
end Go.Proofs.YtkdomobedfhhgaaGreat.Ro
end
