/- Walk of package unpack: All, Edges. What must come at any rate, for the laws of unpack. Walks of ways, by the reference: which rows are edges, the nodes they come by, what they weigh, whether they are ways. What a shortcut stands for is a way of its weight, whose nodes between lie below both its ends, in plain Lean. -/
import Derived.Test.YtkdomobedfhhgaaGreatProg
import Derived.Test.YtkdomobedfhhgaaGreatRm01
import Derived.Test.YtkdomobedfhhgaaGreatQm26
import Derived.Test.YtkdomobedfhhgaaGreatRm07
import Derived.Test.YtkdomobedfhhgaaGreatRm03
import Derived.Sort.OwnSortedInts
import Derived.Deep.Onto
import Derived.Test.YtkdomobedfhhgaaGreatRm06
import Derived.Test.YtkdomobedfhhgaaGreatQm36
import Derived.Test.YtkdomobedfhhgaaGreatRm05
import Derived.Deep.Cut
import Derived.Test.YtkdomobedfhhgaaGreatQm17
import Derived.Test.YtkdomobedfhhgaaGreatQm22
import Derived.Deep.RegionLaw
set_option linter.unusedVariables false
set_option linter.unusedSimpArgs false
set_option linter.unnecessarySimpa false
section
namespace Go.Proofs.YtkdomobedfhhgaaGreat
open Go Go.Proofs Go.RowKit Go.Shelf Go.Proofs.YtkdomobedfhhgaaGreat.Hp Go.Proofs.YtkdomobedfhhgaaGreat.Ch
theorem revO_any (base:Nat) (v:Value) (zs:List Int) (W:World) (h:W.ownsRow base 3 1 v zs.length (zs.map encI)) (hl:zs.length≤1000000):
  Calls Tryz.prog 91 #[v] W fun e w'=>e=.returned (.tuple #[])∧w'.ownsRow base 3 1 v zs.length (zs.reverse.map encI)∧OffX (fun k=>v.ownBlock=some k) W w':=by
 have h0:=h
 obtain ⟨hlen,h2⟩:=h
 rcases h2 with ⟨rfl,hz⟩|⟨g,cap,cur,rfl,hb,hg,h3,h4,h5,h6⟩
 ·have hzs:zs=[]:=by cases zs with|nil=>rfl|cons a r=>simp at hz
  subst hzs
  refine (Tryz.slices_Reverse_int_empty none 0 W).mono ?_
  rintro e w' ⟨rfl,rfl⟩
  exact ⟨rfl,World.ownsRow_nil _ _ _ _,.refl _ _⟩
 ·have hH:Go.Sort.Holds (Value.int .i64) W g 0 zs.toArray:=by
   intro j hj
   have hj2:j<zs.length:=by simpa using hj
   refine ⟨?_,by rw [Nat.zero_add];exact h0.frozenAt j⟩
   rw [Nat.zero_add]
   refine (h0.cellAt j (by omega)).trans ?_
   rw [List.getElem?_map,List.getElem?_eq_getElem hj2,getElem!_pos _ j hj]
   simp
  refine (Tryz.slices_Reverse_int g 0 cap zs W hH (by omega)).mono ?_
  rintro e w' ⟨rfl,n,rfl⟩
  refine ⟨rfl,?_,⟨rfl,rfl,rfl,by rw [Go.Sort.size_putRow];exact Nat.le_refl _,fun k hk hn=>?_⟩⟩
  ·have:=Go.ownsRow_sortedI (n:=n) (os:=#[]) (ss:=zs) (ts:=zs.reverse) (by simp) hb hg h3 h4 h5
   rw [Go.Sort.grow_empty] at this
   exact this
  ·show ((W.heap.modify g _))[k]? =_
   rw [Array.getElem?_modify,if_neg (fun e=>hn (by rw [←e];rfl))]
set_option maxRecDepth 100000 in
set_option maxHeartbeats 1000000 in
theorem cloneIO_any (l:List Int) (ao:Option Addr) (cap:Nat) (w:World) (h:Cel w ao (l.map encI)) (hl:l.length≤1000000):
  Calls Tryz.prog 100 #[.slice ao l.length cap] w fun e w'=>∃v,e=.returned v∧w'.ownsRow w.heap.size 3 1 v l.length (l.map encI)∧Below w.heap.size w w':=by
 by_cases hpos:0<l.length
 ·refine (Ad.cloneO_any l.length (l.map encI) ao cap w (by simp) h (by
   intro u hu
   obtain ⟨x,_,rfl⟩:=List.mem_map.1 hu
   rfl) hl hpos).mono ?_
  rintro e w' ⟨g,c,rfl,h1,h2⟩
  exact ⟨_,rfl,h1,h2⟩
 ·have hn:l=[]:=by
   cases l with
   |nil=>rfl
   |cons a r=>simp at hpos
  subst hn
  clear hpos hl
  have heq:=Lib.run_eql_slice_nil (P:=Tryz.prog) w 25 3 ao 0 cap 0 0 Tryz.underlying25
  simp only [List.length_nil]
  cases ao with
  |none=>
   simp only [Option.isNone] at heq
   clear h
   go_enter Tryz.func100,Tryz.ntmps100
   go_wp2
   go_ret
   exact ⟨_,rfl,World.ownsRow_nil _ _ _ _,Below.refl _ _⟩
  |some ad=>
   obtain ⟨gb,gof,gi⟩:=ad
   simp only [Option.isNone] at heq
   have hlit:(w.alloc (.cells #[] 3)).ownsRow w.heap.size 3 1 (.slice (some ⟨w.heap.size,0,none⟩) 0 0) 0 []:=World.ownsRow_lit (base:=w.heap.size) (e:=3) (size:=1) w #[] 0 (Nat.le_refl _) (by unfold maxLen;omega) rfl
   obtain ⟨i0,hi,hz0,hsz,hby⟩:=info_parts hp_elemi.1
   have HL:=Lib.hid hlit
   clear hlit h
   go_enter Tryz.func100,Tryz.ntmps100
   go_wp2_with (at_builtin;refine wpList_append_own _ rfl _ _ _ rfl w.heap.size 3 i0 (.int .i64 0) 1 8 Tryz.underlying25 hi hz0 hsz hby rfl (by decide) (.slice (some ⟨w.heap.size,0,none⟩) 0 0) 0 [] rfl HL.out ⟨gb,gof,gi⟩ 0 cap [] rfl rfl (fun j u hj=>by cases hj) (by simp) (by unfold maxLen;omega) (by omega) (by simp) ?_;intro v1 w1 ho1 hg1 hn1)
   have hbl:=(Below.of_al w (.cells #[] 3)).grown hg1 (by simp) (fun k hk=>(HL.out.lt k hk).1)
   rw [Nat.zero_add,List.nil_append] at ho1
   go_ret
   exact ⟨_,rfl,ho1,hbl⟩
theorem own_cut {W:World} {base g m cap:Nat} {e:TypeId} {xs:List Value} {x:Value} (h:W.ownsRow base e 1 (.slice (some ⟨g,0,none⟩) (m+1) cap) (m+1) (xs++[x])):W.ownsRow base e 1 (.slice (some ⟨g,0,none⟩) m cap) m xs:=by
 have hl:=h.1
 simp at hl
 refine ⟨by omega,?_⟩
 rcases h.2 with ⟨h1,_⟩|⟨g',c',cur,h1,h2,h3,h4,h5,h6,h7⟩
 ·cases h1
 ·cases h1
  refine .inr ⟨g,cap,cur,rfl,h2,h3,by omega,h5,h6,?_⟩
  have:=congrArg (List.take m) h7
  rw [List.take_take] at this
  rw [Nat.mul_one,show m=min m ((m+1)*1) by omega,this,List.take_append_of_le_length (by omega),List.take_of_length_le (by omega)]
structure AllS (S:List SC) (l:List Int) (M:Nat) (W:World) (vo vs:Value) (out st:List Int) (wr:World):Prop where
 own:wr.ownsRow W.heap.size 3 1 vo out.length (out.map encI)
 ost:wr.ownsRow W.heap.size 3 1 vs st.length (st.map encI)
 dis:∀k,vo.ownBlock=some k→¬vs.ownBlock=some k
 below:Below W.heap.size W wr
 sum:l.all (inS S)=st.all (inS S)
 eq:l.all (inS S)=true→unA S l=out++unA S st.reverse
 len:out.length+unM S st≤M
def UnAllPost (S:List SC) (l:List Int) (W:World) (e:Ending) (w':World):Prop:=
 ∃(v:Value) (b:Bool) (out:List Int),e=.returned (.tuple #[v,.bool b])∧w'.ownsRow W.heap.size 3 1 v out.length (out.map encI)∧Below W.heap.size W w'∧l.all (inS S)=b∧((b=true∧out=unA S l)∨(b=false∧out=[]∧v=.slice none 0 0))
section
variable {S:List SC} {l:List Int} {M:Nat} {W wr w4 w5:World} {vo vs:Value} {out st:List Int} {v:Int}
theorem unM_len (hF:FedS S) (st:List Int):st.length≤unM S st:=by
 induction st with
 |nil=>exact Nat.zero_le _
 |cons a r ih=>
  have:=unW_pos hF a
  have e:unM S (a::r)=unW S a+unM S r:=by simp [unM]
  rw [e,List.length_cons]
  omega
theorem unM_rev (l:List Int):unM S l.reverse=unM S l:=by unfold unM;rw [List.map_reverse,List.sum_reverse]
theorem AllS.start {w1 w2:World} (h1:w1.ownsRow W.heap.size 3 1 vs l.length (l.map encI)) (hb1:Below W.heap.size W w1) (h2:w2.ownsRow W.heap.size 3 1 vs l.length (l.reverse.map encI)) (hb2:OffX (fun k=>vs.ownBlock=some k) w1 w2):AllS S l (unM S l) W (.slice none 0 0) vs [] l.reverse w2:=
 ⟨World.ownsRow_nil _ _ _ _,by rw [List.length_reverse];exact h2,(fun k hk=>by cases hk),hb1.trans (hb2.below hb1.size (fun k e=>(h1.lt k e).1)),by rw [List.all_reverse],fun _=>by simp,by rw [unM_rev];simp⟩
theorem AllS.bad (h:AllS S l M W vo vs out (st++[v]) wr) (hv:inS S v=false):l.all (inS S)=false:=by rw [h.sum];simp [hv]
theorem AllS.go (h:AllS S l M W vo vs out st wr) (hz:Below wr.heap.size wr w4):AllS S l M W vo vs out st w4:=
 ⟨hp_owns_go h.own hz,hp_owns_go h.ost hz,h.dis,h.below.st hz,h.sum,h.eq,h.len⟩
theorem AllS.edge {g cap g5 cap5:Nat} (h:AllS S l M W vo (.slice (some ⟨g,0,none⟩) (st.length+1) cap) out (st++[v]) wr) (hv:inS S v=true) (he:0≤(S.getD v.toNat scZ).e) (hz:Below wr.heap.size wr w4)
  (hown:w5.ownsRow W.heap.size 3 1 (.slice (some ⟨g5,0,none⟩) (out.length+1) cap5) (out.length+1) (out.map encI++[.int .i64 (S.getD v.toNat scZ).e])) (hgr:w4.grownBy w5 vo.ownBlock) (hat:vo.ownBlock=some g5∨g5=w4.heap.size):
  AllS S l M W (.slice (some ⟨g5,0,none⟩) (out.length+1) cap5) (.slice (some ⟨g,0,none⟩) st.length cap) (out++[(S.getD v.toNat scZ).e]) st w5∧unM S (st++[v])=unM S st+1:=by
 have h4:=h.go hz
 have hw:unW S v=1:=by unfold unW;rw [if_pos hv,unL_edge he];rfl
 have hm:unM S (st++[v])=unM S st+1:=by rw [unM_snoc,hw]
 have ho:=h4.ost
 rw [List.length_append,List.length_singleton,List.map_append] at ho
 have hoc:=own_cut ho
 have hgl:=h4.ost.lt g rfl
 refine ⟨⟨by rw [List.length_append,List.map_append];exact hown,owns_eqb hoc (fun k hk=>hgr.block k (hoc.lt k hk).2 ?_),?_,h4.below.grown hgr h4.below.size (fun k hk=>(h4.own.lt k hk).1),?_,?_,?_⟩,hm⟩
 ·intro e
  exact h4.dis k e.symm hk
 ·intro k hk e
  cases hk
  obtain rfl:g=g5:=Option.some.inj e
  rcases hat with h1|h1
  ·exact h4.dis _ h1 rfl
  ·omega
 ·rw [h.sum];simp [hv]
 ·intro hl
  rw [h.eq hl,List.reverse_append]
  simp [unA,unL_edge he]
 ·have:=h.len
  rw [hm] at this
  rw [List.length_append,List.length_singleton]
  omega
theorem AllS.two {g cap g5 cap5:Nat} (hF:FedS S) (h:AllS S l M W vo (.slice (some ⟨g,0,none⟩) (st.length+1) cap) out (st++[v]) wr) (hv:inS S v=true) (he:¬0≤(S.getD v.toNat scZ).e) (hz:Below wr.heap.size wr w4)
  (hown:w5.ownsRow W.heap.size 3 1 (.slice (some ⟨g5,0,none⟩) (st.length+2) cap5) (st.length+2) (st.map encI++[.int .i64 (S.getD v.toNat scZ).b,.int .i64 (S.getD v.toNat scZ).a])) (hgr:w4.grownBy w5 (some g)) (hat:some g=some g5∨g5=w4.heap.size):
  AllS S l M W vo (.slice (some ⟨g5,0,none⟩) (st.length+2) cap5) out (st++[(S.getD v.toNat scZ).b,(S.getD v.toNat scZ).a]) w5∧unM S (st++[v])=unM S (st++[(S.getD v.toNat scZ).b,(S.getD v.toNat scZ).a])+1:=by
 have h4:=h.go hz
 have hi:=inS_iff.1 hv
 have hvl:v.toNat<S.length:=by omega
 rcases hF v.toNat hvl with h1|⟨h0,a,b,ea,eb,ha,hb⟩
 ·exact absurd h1 he
 have ia:inS S (a:Int)=true:=inS_iff.2 ⟨by omega,by omega⟩
 have ib:inS S (b:Int)=true:=inS_iff.2 ⟨by omega,by omega⟩
 have hu:=unL_two hF hvl h0 ea eb ha hb
 have la:=unL_ne hF a (by omega)
 have lb:=unL_ne hF b (by omega)
 have hm:unM S (st++[v])=unM S (st++[(S.getD v.toNat scZ).b,(S.getD v.toNat scZ).a])+1:=by
  rw [unM_snoc,ea,eb,show st++[(b:Int),(a:Int)]=(st++[(b:Int)])++[(a:Int)] by simp,unM_snoc,unM_snoc]
  unfold unW
  rw [if_pos hv,if_pos ia,if_pos ib,hu,List.length_append,Int.toNat_natCast,Int.toNat_natCast]
  omega
 have hgl:=h4.ost.lt g rfl
 refine ⟨⟨owns_eqb h4.own (fun k hk=>hgr.block k (h4.own.lt k hk).2 ?_),by rw [List.length_append,List.map_append];exact hown,?_,h4.below.grown hgr h4.below.size (fun k hk=>by cases hk;exact hgl.1),?_,?_,?_⟩,hm⟩
 ·intro e
  exact h4.dis k hk e.symm
 ·intro k hk e
  obtain rfl:g5=k:=Option.some.inj e
  rcases hat with h1|h1
  ·obtain rfl:g=g5:=Option.some.inj h1
   exact h4.dis _ hk rfl
  ·have:=(h4.own.lt _ hk).2
   omega
 ·rw [h.sum,ea,eb];simp [hv,ia,ib]
 ·intro hl
  rw [h.eq hl,List.reverse_append,List.reverse_append,ea,eb]
  simp [unA,hu]
 ·have:=h.len
  omega
end
theorem un_two (w:World) (x y:Value) (T:TypeId) {k:Nat} (hk:k=w.heap.size):∀j u,[x,y][j]? =some u→(w.alloc (.cells #[x,y] T)).cell? ((⟨k,0,none⟩:Addr).add j)=some u:=by
 intro j u hu
 subst hk
 rw [Addr.add_lit]
 have:=World.cell?_alloc_mark w #[x,y] T (0,0) (0+j)
 rw [this]
 simpa using hu
theorem un_one (w:World) (x:Value) (T:TypeId) {k:Nat} (hk:k=w.heap.size):∀j u,[x][j]? =some u→(w.alloc (.cells #[x] T)).cell? ((⟨k,0,none⟩:Addr).add j)=some u:=by
 intro j u hu
 subst hk
 rw [Addr.add_lit]
 have:=World.cell?_alloc_mark w #[x] T (0,0) (0+j)
 rw [this]
 simpa using hu
theorem un_twos (x y:Int):∀u∈[Value.int .i64 x,.int .i64 y],u.oneCell'=true:=by
 intro u hu
 simp at hu
 rcases hu with rfl|rfl<;>rfl
def UaJ (hb:Nat) (S:List SC) (l:List Int) (M:Nat) (W:World) (mm l0:Nat) (a:Act) (wr:World):Prop:=
 l0=0∧∃u,a=lit 52 u∧u 0=.pointer (some ⟨hb,0,none⟩)∧Aside (∃out st,AllS S l M W (u 4) (u 6) out st wr∧unM S st≤mm)
set_option maxRecDepth 100000 in
set_option maxHeartbeats 4000000 in
theorem all_any (hb n:Nat) (es:List EdgeD) (R:List Int) (S:List SC) (O I:List (List Int)) (hF:FedS S) (l:List Int) (ao:Option Addr) (cap:Nat) (w:World) (hH:HierM w hb n es R S O I) (hc:Cel w ao (l.map encI)) (hl:l.length≤60000) (hM:unM S l≤200000)
  (hb9:∀x∈S,-1≤x.e∧x.e≤1000000∧-1≤x.a∧x.a≤1000000∧-1≤x.b∧x.b≤1000000):
  Calls Tryz.prog 59 #[.pointer (some ⟨hb,0,none⟩),.slice ao l.length cap] w (UnAllPost S l w):=by
 have HH:=Lib.hid (fun W (hz:Below w.heap.size w W)=>hH.go hz)
 have HSS:=Lib.hid hH.small
 have HCL:=Lib.hid (cloneIO_any l ao cap w hc (by omega))
 have HM:=Lib.hid hM
 have HL:=Lib.hid hl
 have H9:=Lib.hid hb9
 have HF:=Lib.hid hF
 clear hH hc hM hb9 hF hl
 go_enter Tryz.func59,Tryz.ntmps59
 repeat go_step
 refine wp_scope_into 0 (unM S l) (UaJ hb S l (unM S l) w) rfl ?_ ?_ ?_ ?_
 ·rintro m m' l0 a w' hle ⟨h1,u,h2,h3,out,st,h4,h5⟩
  exact ⟨h1,u,h2,h3,out,st,h4,Nat.le_trans h5 hle⟩
 ·intro hcont
  have HCONT:=Lib.hid hcont
  clear hcont
  go_wp2_with (go_at_call 100;refine HCL.out.mono ?_;rintro e w1 ⟨v6,rfl,h1,h2⟩;(have HO1:=Lib.hid h1);(have HB1:=Lib.hid h2);clear h1 h2)
  have HRV:=Lib.hid (revO_any w.heap.size v6 l w1 HO1.out (by have:=HL.out;omega))
  go_wp2_with (go_at_call 91;refine HRV.out.mono ?_;rintro e w2 ⟨rfl,h1,h2⟩;(have HO2:=Lib.hid h1);(have HB2:=Lib.hid h2);clear h1 h2)
  go_step3
  first
   |refine HCONT.out _ _ ?_
   |(go_step;refine HCONT.out _ _ ?_)
   |(go_step;go_step;refine HCONT.out _ _ ?_)
  exact ⟨rfl,_,lit_of 52 _ rfl rfl,rfl,[],l.reverse,AllS.start HO1.out HB1.out HO2.out HB2.out,by rw [unM_rev];exact Nat.le_refl _⟩
 ·rintro mm a wr ⟨-,u,rfl,h0,hA⟩
  obtain ⟨out,st,hs,hmm⟩:=hA
  simp only [lit,List.range,List.range.loop,List.map_cons,List.map_nil,h0]
  obtain ⟨v4,hv4⟩:∃v4,v4=u 4:=⟨_,rfl⟩
  obtain ⟨v6,hv6⟩:∃v6,v6=u 6:=⟨_,rfl⟩
  rw [←hv4,←hv6] at hs ⊢
  have HS:=Lib.hid hs
  have HMM:=Lib.hid hmm
  have HLN:=Lib.hid (And.intro (show out.length≤200000 by have:=hs.len;have:=HM.out;omega) (show st.length≤200000 by have:=hs.len;have:=HM.out;have:=unM_len HF.out st;omega))
  clear hs hmm hv4 hv6 h0
  rcases List.eq_nil_or_concat st with rfl|⟨st',v,hst⟩
  ·obtain ⟨ao6,cap6,e6,-⟩:=Cel.of_owns HS.out.ost
   subst e6
   simp only [List.length_nil]
   go_wp2
   simp only [jumps_ret]
   refine bodyPost_ret (v:=.tuple #[v4,.bool true]) (by simp [results,Tryz.results59,go_sem];try rfl) rfl ?_
   have ht:l.all (inS S)=true:=by rw [HS.out.sum];rfl
   exact ⟨_,_,out,rfl,HS.out.own,HS.out.below,ht,.inl ⟨rfl,by rw [HS.out.eq ht];simp [unA]⟩⟩
  ·rw [List.concat_eq_append] at hst
   subst hst
   obtain ⟨g,cap6,e6⟩:=own_form HS.out.ost (by simp)
   rw [List.length_append,List.length_singleton] at e6
   subst e6
   have HC:=Lib.hid (show wr.cell? ⟨g,st'.length,none⟩=some (.int .i64 v) by
    have ho:=HS.out.ost
    rw [List.length_append,List.length_singleton] at ho
    refine (ho.cellAt st'.length (by omega)).trans ?_
    rw [List.getElem?_map,List.getElem?_append_right (Nat.le_refl _),Nat.sub_self]
    rfl)
   obtain ⟨m,hm⟩:∃m,m=st'.length:=⟨_,rfl⟩
   rw [←hm] at HC ⊢
   have hm2:m≤200000:=by have:=HLN.out.2;simp at this;omega
   have hm0:(0:Int)≤(m:Int):=by omega
   have hm1:(m:Int)<(m:Int)+1:=by omega
   have hm3:((m:Int)+1==0)=false:=by rw [beq_eq_false_iff_ne];omega
   have hm4:(m:Int)+1-1=(m:Int):=by omega
   have hm5:(m:Int)≤200000:=by omega
   have hmc:m≤cap6:=by
    have ho:=HS.out.ost
    rw [List.length_append,List.length_singleton] at ho
    have:=owns_cap ho
    omega
   have HMM2:=Lib.hid hm
   clear hm
   have hc:=HC.out
   cases hin:inS S v with
   |false=>
    have HN:=Lib.hid (HS.out.bad hin)
    have HSC:=Lib.hid (shortcut_none hb n es R S O I wr (HH.out wr HS.out.below) v (by
     rcases Classical.em (0≤v∧v<(S.length:Int)) with h|h
     ·rw [inS_iff.2 h] at hin;cases hin
     ·omega))
    simp only [scV,scZ] at HSC
    clear hin
    go_wp2_with (go_at_call 40;refine HSC.out.mono ?_;rintro e w1 ⟨rfl,hb1⟩;(have HB1:=Lib.hid hb1);clear hb1)
    simp only [jumps_ret]
    refine bodyPost_ret (v:=.tuple #[.slice none 0 0,.bool false]) (by simp [results,Tryz.results59,go_sem];try rfl) rfl ?_
    exact ⟨_,_,[],rfl,World.ownsRow_nil _ _ _ _,HS.out.below.st (HB1.out.st (Below.of_al _ _)),HN.out,.inr ⟨rfl,rfl,rfl⟩⟩
   |true=>
    obtain ⟨k,rfl⟩:∃k:Nat,v=k:=⟨v.toNat,by have:=inS_iff.1 hin;omega⟩
    have hk:k<S.length:=by have:=inS_iff.1 hin;omega
    have HIN:=Lib.hid hin
    have hgk:S.getD k scZ=S[k]:=by rw [List.getD_eq_getElem?_getD,List.getElem?_eq_getElem hk];rfl
    have HSC:=Lib.hid (shortcut_any hb n es R S O I wr (HH.out wr HS.out.below) k hk)
    obtain ⟨p1,p2,p3,p4,p5,p6⟩:=H9.out _ (List.getElem_mem hk)
    obtain ⟨X,hX⟩:∃X,X=S[k]:=⟨_,rfl⟩
    rw [←hX] at HSC p1 p2 p3 p4 p5 p6 hgk
    have HG:=Lib.hid (show S.getD ((k:Int)).toNat scZ=X by rw [Int.toNat_natCast];exact hgk)
    clear hin hX hgk
    obtain ⟨xf,xt,xw,xe,xa,xb⟩:=X
    simp only [scV] at HSC p1 p2 p3 p4 p5 p6
    by_cases he:0≤xe
    ·have he1:decide (0≤xe)=true:=by simpa using he
     have HE:=Lib.hid he
     clear he
     go_wp2_with (first
      |(go_at_call 40;refine HSC.out.mono ?_;rintro e w1 ⟨rfl,hb1⟩;(have HB1:=Lib.hid hb1);clear hb1)
      |(at_builtin;refine wpList_app w.heap.size 3 _ 1 8 hp_elemi Tryz.underlying25 v4 out.length _ ⟨w1.heap.size+1,0,none⟩ 1 1 [.int .i64 xe] rfl rfl (World.ownsRow.alloc (World.ownsRow.alloc (hp_owns_go HS.out.own HB1.out) _) _) (un_one _ _ _ (by simp)) (one_cells rfl) ⟨rfl,by decide,(by have:=HLN.out.1;omega),(by have:=HLN.out.1;omega),(by have:=HS.out.below.size;have:=HB1.out.size;simp;omega)⟩ ?_;intro g5 cap5 w5 hown5 hgrow5 hbl5 hat5 hlt5;(have HO5:=Lib.hid hown5);(have HG5:=Lib.hid hgrow5);(have HAT5:=Lib.hid hat5);clear hown5 hgrow5 hbl5 hat5 hlt5))
     go_step3
     repeat go_step
     rw [jumps_goto]
     have hm:=HMM2.out
     subst hm
     have hz:Below wr.heap.size wr ((w1.alloc (Obj.cells #[.int .i64 xf,.int .i64 xt,.int .u64 xw,.int .i64 xe,.int .i64 xa,.int .i64 xb] 79)).alloc (Obj.cells #[.int .i64 xe] 3)):=(HB1.out.st (Below.of_al _ _)).st (Below.of_al _ _)
     have HE2:=HS.out.edge HIN.out (by rw [HG.out];exact HE.out) hz (by rw [HG.out];exact HO5.out) HG5.out HAT5.out
     rw [HG.out] at HE2
     exact ⟨unM S st',by have:=HE2.2;have:=HMM.out;omega,rfl,_,lit_of 52 _ rfl rfl,rfl,_,_,HE2.1,Nat.le_refl _⟩
    ·have he1:decide (0≤xe)=false:=by simpa using he
     have HE:=Lib.hid he
     clear he
     have hcap:∀(W:World),Below wr.heap.size wr W→W.ownsRow w.heap.size 3 1 (.slice (some ⟨g,0,none⟩) m cap6) m (st'.map encI):=by
      intro W hz
      have ho:=hp_owns_go HS.out.ost hz
      rw [List.length_append,List.length_singleton,List.map_append] at ho
      rw [HMM2.out]
      exact own_cut ho
     have HCP:=Lib.hid hcap
     clear hcap
     go_wp2_with (first
      |(go_at_call 40;refine HSC.out.mono ?_;rintro e w1 ⟨rfl,hb1⟩;(have HB1:=Lib.hid hb1);clear hb1)
      |(at_builtin;refine wpList_app w.heap.size 3 _ 1 8 hp_elemi Tryz.underlying25 (.slice (some ⟨g,0,none⟩) m cap6) m _ ⟨w1.heap.size+1,0,none⟩ 2 2 [.int .i64 xb,.int .i64 xa] rfl rfl (World.ownsRow.alloc (World.ownsRow.alloc (HCP.out _ HB1.out) _) _) (un_two _ _ _ _ (by simp)) (un_twos _ _) ⟨rfl,by decide,(by omega),(by omega),(by have:=HS.out.below.size;have:=HB1.out.size;simp;omega)⟩ ?_;intro g5 cap5 w5 hown5 hgrow5 hbl5 hat5 hlt5;(have HO5:=Lib.hid hown5);(have HG5:=Lib.hid hgrow5);(have HAT5:=Lib.hid hat5);clear hown5 hgrow5 hbl5 hat5 hlt5))
     go_step3
     repeat go_step
     rw [jumps_goto]
     have hm:=HMM2.out
     subst hm
     have hz:Below wr.heap.size wr ((w1.alloc (Obj.cells #[.int .i64 xf,.int .i64 xt,.int .u64 xw,.int .i64 xe,.int .i64 xa,.int .i64 xb] 79)).alloc (Obj.cells #[.int .i64 xb,.int .i64 xa] 3)):=(HB1.out.st (Below.of_al _ _)).st (Below.of_al _ _)
     have HE2:=HS.out.two HF.out HIN.out (by rw [HG.out];show ¬0≤xe;have:=HE.out;omega) hz (by rw [HG.out];exact HO5.out) HG5.out HAT5.out
     rw [HG.out] at HE2
     exact ⟨_,by have:=HE2.2;have:=HMM.out;omega,rfl,_,lit_of 52 _ rfl rfl,rfl,_,_,HE2.1,Nat.le_refl _⟩
 ·rintro mm l0 a w' hne ⟨h,_⟩
  exact absurd h hne
set_option maxRecDepth 100000 in
set_option maxHeartbeats 1000000 in
theorem unEdges_any (hb n:Nat) (es:List EdgeD) (R:List Int) (S:List SC) (O I:List (List Int)) (hF:FedS S) (i:Int) (w:World) (hH:HierM w hb n es R S O I) (hM:unM S [i]≤200000)
  (hb9:∀x∈S,-1≤x.e∧x.e≤1000000∧-1≤x.a∧x.a≤1000000∧-1≤x.b∧x.b≤1000000):
  Calls Tryz.prog 49 #[.pointer (some ⟨hb,0,none⟩),.int .i64 i] w (UnAllPost S [i] w):=by
 have HA:=Lib.hid (all_any hb n es R S O I hF [i] (some ⟨w.heap.size,0,none⟩) 1 (w.alloc (.cells #[.int .i64 i] 3)) (hH.go (Below.of_al _ _)) (by
  intro j u hj
  match j,hj with
  |0,hj=>exact ⟨w.heap.size,0,rfl,by cases hj;simp⟩
  |j+1,hj=>simp at hj) (by simp) hM hb9)
 simp only [List.length_singleton] at HA
 clear hH hM hb9
 go_enter Tryz.func49,Tryz.ntmps49
 go_wp2_with (go_at_call 59;refine HA.out.mono ?_;rintro e w1 ⟨v,b,out,rfl,h1,h2,h3,h4⟩)
 refine bodyPost_ret (v:=.tuple #[v,.bool b]) (by simp [results,Tryz.results49,go_sem];try rfl) rfl ?_
 exact ⟨v,b,out,rfl,World.ownsRow.mono h1 (Below.of_al w _).size,(Below.of_al w _).trans (h2.mono (Below.of_al w _).size),h3,h4⟩
end Go.Proofs.YtkdomobedfhhgaaGreat
end
section
namespace Go.Proofs.YtkdomobedfhhgaaGreat
open Go Go.Proofs Go.RowKit Go.Shelf Go.Proofs.YtkdomobedfhhgaaGreat.Hp Go.Proofs.YtkdomobedfhhgaaGreat.Ch Go.Proofs.YtkdomobedfhhgaaGreat.Ro
theorem BltPost2.good {r:List Int} {g:GD} {k:Int} {w w':World} {e:Ending} (h:BltPost2 r g k w e w') (hk:k=0) (hg:rightG g=0) (hn:g.n≤12) (hr:r≠[]):∃hb S ro,e=.returned (.tuple #[.pointer (some ⟨hb,0,none⟩),.int .i64 0])∧BH w' hb g.n.toNat g.es r S ro∧Below w.heap.size w w':=by
 obtain ⟨h1|h1,h2⟩:=h
 ·obtain ⟨_,hb,R,S,ro,e,⟨hm,ho⟩,hR⟩:=h1
  have:=right_n hg
  rw [hR hr] at hm ho
  exact ⟨hb,S,ro,e,⟨hm,ho,by omega,by omega⟩,h2⟩
 ·exact absurd hk h1.1
theorem cel_lits (W:World) (xs:Array Value) (T:TypeId) {k:Nat} (hk:k=W.heap.size):Cel (W.alloc (Obj.cells xs T)) (some ⟨k,0,none⟩) xs.toList:=by
 subst hk
 intro j u hj
 exact ⟨_,_,rfl,(World.cell?_alloc_mark W xs T (0,0) (0+j)).trans (by simpa using hj)⟩
theorem e2_edges {S:List SC} {ro:List Int} {w w':World} {e:Ending} (ho:HierOK e2E 3 e2R S ro) (h:UnAllPost S [2] w e w'):∃a c,e=.returned (.tuple #[.slice a 2 c,.bool true])∧Cel w' a (([0,1]:List Int).map encI)∧Below w.heap.size w w':=by
 obtain ⟨h1,h2,h3,h4⟩:=e2_un ho
 obtain ⟨v,b,out,rfl,k1,k2,k3,k4⟩:=h
 have hb:b=true:=by
  rw [←k3]
  simp only [List.all_cons,List.all_nil,Bool.and_true]
  exact inS_iff.2 ⟨by decide,by omega⟩
 subst hb
 rcases k4 with ⟨_,rfl⟩|⟨k,_⟩
 ·have e:unA S [2]=[0,1]:=by
   show unL S 2++[]=_
   rw [h3]
   rfl
  rw [e] at k1
  obtain ⟨a,c,rfl,hc⟩:=Cel.of_owns k1
  exact ⟨a,c,rfl,hc,k2⟩
 ·cases k
set_option maxRecDepth 100000 in
set_option maxHeartbeats 2000000 in
theorem alive24_any (w:World):Calls Tryz.prog 47 #[] w fun e w'=>e=.returned (.bool true)∧Below w.heap.size w w':=by
 have HBU:=Lib.hid (fun W ao ro (hc:Cel W ao (flat e2E)) (hr:Cel W ro (e2R.map encI))=>built2_any ⟨3,e2E⟩ ao ro 2 3 9 9 e2R W hc hr (fun _=>by decide) (by decide) (by decide))
 have HRT:=Lib.hid (fun W hb S ro (h:BH W hb 3 e2E e2R S ro)=>route_any hb 3 e2E e2R S ro 0 2 W h (by decide) (by decide) e2_in)
 have HED:=Lib.hid (fun W hb S ro (h:BH W hb 3 e2E e2R S ro)=>unEdges_any hb 3 e2E e2R S _ _ (e2_un h.ok).1 2 W h.mem (by
  obtain ⟨h1,h2,h3,h4⟩:=e2_un h.ok
  have:unW S 2=3:=by
   unfold unW
   rw [if_pos (inS_iff.2 ⟨by decide,by omega⟩)]
   show 2*(unL S 2).length-1=3
   rw [h3]
   rfl
  simp [unM,this]) (e2_un h.ok).2.2.2)
 unfold RoutePost at HRT
 go_enter Tryz.func47,Tryz.ntmps47
 go_upto_region 2 with (go_at_call 16;refine (HBU.out _ (some ⟨w.heap.size,0,none⟩) (some ⟨w.heap.size+1,0,none⟩) ((cel_lits w #[.int .i64 0,.int .i64 1,.int .u64 1,.int .i64 1,.int .i64 2,.int .u64 1] _ rfl).go (Below.of_al _ _)) (cel_lits _ #[.int .i64 1,.int .i64 0,.int .i64 2] _ (by simp))).mono ?_;rintro e w1 hp;obtain ⟨hb,S,ro,rfl,hbh,hb1⟩:=hp.good (by decide) (by decide) (by decide) (by decide);(have HBH:=Lib.hid hbh);(have HB1:=Lib.hid (((Below.of_al w _).al _).st hb1));clear hp hbh hb1)
 go_upto_region 3 with (go_at_call 65;refine (HRT.out _ _ _ _ HBH.out).mono ?_;rintro e w2 ⟨la,l,lc,x,k,rfl,hcl,hb2,hri,-⟩;obtain ⟨rfl,rfl,rfl⟩:=e2_route hri;(have HCL:=Lib.hid hcl);(have HB2:=Lib.hid hb2);clear hcl hb2 hri)
 have HBH2:=Lib.hid (fun W (hz:Below w2.heap.size w2 W)=>(HBH.out.go HB2.out).go hz)
 go_upto_region 4 with (go_at_call 49;refine (HED.out _ _ _ _ (HBH2.out _ (by repeat (first|exact Below.refl _ _|refine Below.al ?_ _|refine Below.dr ?_ _|refine Below.drew ?_|assumption|(refine Below.st ?_ (by assumption)))))).mono ?_;rintro e w3 hp;obtain ⟨a3,c3,rfl,hc3,hb3⟩:=e2_edges HBH.out.ok hp;(have HC3:=Lib.hid hc3);(have HB3:=Lib.hid hb3);clear hp hc3 hb3)
 have r0:w3.cell? ⟨w2.heap.size,0,none⟩=some (.slice la 2 lc):=cell_later HB3.out (by go_simp)
 have r1:w3.cell? ⟨w2.heap.size,1,none⟩=some (.int .u64 2):=cell_later HB3.out (by go_simp)
 have HCL3:=Lib.hid ((HCL.out.go (Below.of_al w2 (.cells #[.slice la 2 lc,.int .u64 2] 111))).go HB3.out)
 have HBB:=Lib.hid ((HB1.out.st HB2.out).st ((Below.of_al w2 (.cells #[.slice la 2 lc,.int .u64 2] 111)).trans (HB3.out.mono (Below.of_al w2 _).size)))
 have HSM:=Lib.hid (fun (a A:Option Addr) (c:Nat) W (ha:Cel W a (([0,1]:List Int).map encI)) (hA:Cel W A (([0,1]:List Int).map encI))=>sameInts_any a A c 2 [0,1] [0,1] W (by decide) (by decide) ha hA)
 simp only [decide_true,List.length_cons,List.length_nil,Nat.zero_add,Nat.reduceAdd] at HSM
 clear HBH2 HBU HRT HED
 go_wp2_with fail
 refine (HSM.out _ _ _ _ (HCL3.out.go (Below.of_al _ _)) (cel_lits w3 #[.int .i64 0,.int .i64 1] 3 rfl)).mono ?_
 rintro e w4 ⟨rfl,n4,rfl⟩
 go_wp2_with fail
 refine (HSM.out _ _ _ _ (HC3.out.go (by repeat (first|exact Below.refl _ _|refine Below.al ?_ _|refine Below.dr ?_ _|refine Below.drew ?_|assumption|(refine Below.st ?_ (by assumption))))) (cel_lits _ #[.int .i64 0,.int .i64 1] 3 (by simp))).mono ?_
 rintro e w5 ⟨rfl,n5,rfl⟩
 go_wp2
 go_ret
 exact ⟨rfl,HBB.out.trans (Below.mono (show Below w3.heap.size w3 _ by repeat (first|exact Below.refl _ _|refine Below.al ?_ _|refine Below.dr ?_ _|refine Below.drew ?_|assumption|(refine Below.st ?_ (by assumption)))) HBB.out.size)⟩
end Go.Proofs.YtkdomobedfhhgaaGreat
end
section
namespace Go.Proofs.YtkdomobedfhhgaaGreat
open Go.Proofs Go.RowKit Go.Shelf
def edgesB (g:GD) (l:List Int):Bool:=rightG g==0&&!(l.any fun e=>!edgeB g.es.length e)
theorem edgesB_1 {g:GD} {l:List Int} (h:(rightG g != 0)=true):edgesB g l=false:=by
 have h2:(rightG g==0)=false:=by simpa using h
 unfold edgesB
 rw [h2];rfl
theorem edgesB_2 {g:GD} {l:List Int} (h:(rightG g != 0)=false):edgesB g l=!(l.any fun e=>!edgeB g.es.length e):=by
 have h2:(rightG g==0)=true:=by simpa using h
 unfold edgesB
 rw [h2];rfl
set_option maxHeartbeats 2000000 in
theorem refedges_any (g:GD) (ao bo:Option Addr) (cap cb:Nat) (l:List Int) (w:World) (hl:g.es.length≤9223372036854775807) (hll:l.length≤9223372036854775807) (hc:Cel w ao (flat g.es)) (hd:Cel w bo (l.map encI)):
  Calls Tryz.prog 95 #[.agg #[.int .i64 g.n,.slice ao g.es.length cap],.slice bo l.length cb] w fun e w'=>e=.returned (.bool (edgesB g l))∧Below w.heap.size w w':=by
 have HC:=Lib.hid hc
 have HD:=Lib.hid hd
 clear hc hd
 have X1:=Lib.hid (fun W h=>refRightG_any g ao cap W hl h)
 have E1:=Lib.hid (@edgesB_1 g l)
 have E2:=Lib.hid (@edgesB_2 g l)
 generalize edgesB g l=r at*
 cases q1:(rightG g != 0) with
 |true=>
  have HR:=Lib.hid (E1.out q1)
  generalize rightG g=f at*
  go_enter Tryz.func95,Tryz.ntmps95
  go_wp2_with (go_at_call 41;refine (X1.out _ (HC.out.go (by repeat (first|exact Below.refl _ _|refine Below.al ?_ _|refine Below.dr ?_ _|refine Below.drew ?_|assumption|(refine Below.st ?_ (by assumption)))))).mono ?_;rintro e w1 ⟨rfl,hb1⟩)
  go_ret
  exact ⟨by rw [HR.out];rfl,by repeat (first|exact Below.refl _ _|refine Below.al ?_ _|refine Below.dr ?_ _|refine Below.drew ?_|assumption|(refine Below.st ?_ (by assumption)))⟩
 |false=>
  have HR:=Lib.hid (E2.out q1)
  generalize rightG g=f at*
  go_enter Tryz.func95,Tryz.ntmps95
  go_wp2_with fail
  obtain ⟨W,hW,c0,c1,hsW⟩:∃W,W=w.alloc (Obj.cells #[.int .i64 g.n,.slice ao g.es.length cap] 24)∧W.cell? ⟨w.heap.size,0,none⟩=some (.int .i64 g.n)∧W.cell? ⟨w.heap.size,1,none⟩=some (.slice ao g.es.length cap)∧w.heap.size<W.heap.size:=⟨_,rfl,by go_simp,by go_simp,by simp⟩
  rw [←hW]
  have HW:=Lib.hid (show Below w.heap.size w W by rw [hW];repeat (first|exact Below.refl _ _|refine Below.al ?_ _|refine Below.dr ?_ _|refine Below.drew ?_|assumption|(refine Below.st ?_ (by assumption))))
  clear hW
  refine (X1.out _ (HC.out.go HW.out)).mono ?_
  rintro e w1 ⟨rfl,hb1⟩
  have c0':=cell_later hb1 c0
  have c1':=cell_later hb1 c1
  have HW1:=Lib.hid (HW.out.st hb1)
  have hsW1:w.heap.size<w1.heap.size:=by have:=hb1.size;omega
  clear HW c0 c1 hb1 hsW
  go_wp2
  go_loopg [5] l.length (fun gg i wr=>∃k q:Nat,k≤l.length∧l.length-k≤gg∧i=.int .i64 k∧wr=w1.drewN q∧Aside (∀j (h:j<l.length),j<k→(!edgeB g.es.length l[j])=false))
  case atStart=>exact ⟨0,0,Nat.zero_le _,by omega,rfl,rfl,fun j _ h=>absurd h (Nat.not_lt_zero _)⟩
  case round=>
   obtain ⟨k,qn,hk,hg,rfl,rfl,HA⟩:=hrel
   by_cases hlt:k<l.length
   ·have hlt3:(k:Int)<(l.length:Int):=by omega
    have hk0:(0:Int)≤(k:Int):=by omega
    obtain ⟨b,o,hao,f1⟩:=(HD.out.go HW1.out).at hlt
    have HN:=Lib.hid (fun h=>@upto_succ _ (fun e=>!edgeB g.es.length e) l k HA.out hlt h)
    have HY:=Lib.hid (fun h=>@any_at _ (fun e=>!edgeB g.es.length e) l k hlt h)
    generalize l[k]=x at*
    subst hao
    by_cases d1:x<0
    ·have HZ:=Lib.hid (HY.out (by simp [edgeB];omega))
     have t1:decide (x<0)=true:=by simp [d1]
     go_wp2
     go_quiet (fail)
     go_wp2
     go_ret
     exact ⟨by rw [HR.out,HZ.out];rfl,(HW1.out.dr _).dr _⟩
    ·have t1:decide (x<0)=false:=by simp;omega
     by_cases d2:(g.es.length:Int)≤x
     ·have HZ:=Lib.hid (HY.out (by simp [edgeB];omega))
      have t2:decide ((g.es.length:Int)≤x)=true:=by simp [d2]
      go_wp2
      go_quiet (fail)
      go_wp2
      go_ret
      exact ⟨by rw [HR.out,HZ.out];rfl,(HW1.out.dr _).dr _⟩
     ·have HZ:=Lib.hid (HN.out (by simp [edgeB];omega))
      have t2:decide ((g.es.length:Int)≤x)=false:=by simp;omega
      go_wp2
      go_quiet (fail)
      go_wp2
      go_roundg (l.length-(k+1))
      case measure=>omega
      case rel=>exact ⟨k+1,qn+nq,by omega,by omega,by go_num,rfl,HZ.out⟩
   ·obtain rfl:k=l.length:=by omega
    have HZ:=Lib.hid (@any_from _ (fun e=>!edgeB g.es.length e) l (fun j h=>HA.out j h h))
    go_wp2
    go_ret
    exact ⟨by rw [HR.out,HZ.out];rfl,HW1.out.dr _⟩
def edD:EdgeD:=⟨0,0,0⟩
def walkGo (es:List EdgeD):Int→List Int→List Int→Option (List Int)
 |_,out,[]=>some out
 |s,out,e::r=>if (es.getD e.toNat edD).f=s then walkGo es (es.getD e.toNat edD).t (out++[(es.getD e.toNat edD).t]) r else none
def nodesG (g:GD) (s:Int) (l:List Int):Option (List Int):=if edgesB g l&&nodeB g.n s then walkGo g.es s [s] l else none
theorem nodesG_no1 {g:GD} {s:Int} {l:List Int} (h:edgesB g l=false):nodesG g s l=none:=by unfold nodesG;rw [h];rfl
theorem nodesG_no2 {g:GD} {s:Int} {l:List Int} (h:nodeB g.n s=false):nodesG g s l=none:=by unfold nodesG;rw [h,Bool.and_false];rfl
theorem nodesG_yes {g:GD} {s:Int} {l:List Int} (h:edgesB g l=true) (h2:nodeB g.n s=true):nodesG g s l=walkGo g.es s [s] l:=by unfold nodesG;rw [h,h2];rfl
theorem edgesB_mem {g:GD} {l:List Int} (h:edgesB g l=true) {e:Int} (he:e∈l):0≤e∧e<(g.es.length:Int):=by
 unfold edgesB at h
 simp only [Bool.and_eq_true,Bool.not_eq_true',List.any_eq_false] at h
 have:=h.2 e he
 simpa [edgeB] using this
theorem walk_step_yes {es:List EdgeD} {s:Int} {out l:List Int} {k:Nat} (hk:k<l.length) (h0:0≤l[k]) (h1:l[k].toNat<es.length) (h:es[l[k].toNat].f=s):
  walkGo es s out (l.drop k)=walkGo es es[l[k].toNat].t (out++[es[l[k].toNat].t]) (l.drop (k+1)):=by
 rw [List.drop_eq_getElem_cons hk,walkGo]
 have:es.getD l[k].toNat edD=es[l[k].toNat]:=by simp [List.getD,h1]
 rw [this,if_pos h]
theorem walk_step_no {es:List EdgeD} {s:Int} {out l:List Int} {k:Nat} (hk:k<l.length) (h0:0≤l[k]) (h1:l[k].toNat<es.length) (h:¬es[l[k].toNat].f=s):
  walkGo es s out (l.drop k)=none:=by
 rw [List.drop_eq_getElem_cons hk,walkGo]
 have:es.getD l[k].toNat edD=es[l[k].toNat]:=by simp [List.getD,h1]
 rw [this,if_neg h]
theorem walk_end {es:List EdgeD} {s:Int} {out l:List Int}:walkGo es s out (l.drop l.length)=some out:=by rw [List.drop_length,walkGo]
theorem cap_of_owns {w:World} {base:Nat} {e:TypeId} {size n cap:Nat} {ao:Option Addr} {xs:List Value} (h:w.ownsRow base e size (.slice ao n cap) n xs):n≤cap:=by
 rcases h.2 with ⟨h1,rfl⟩|⟨g,cap',cur,h1,hb,hg,rest⟩
 ·omega
 ·cases h1
  omega
def NodesPost (w:World) (r:Option (List Int)) (e:Ending) (w':World):Prop:=
 ∃ao cap,e=.returned (.tuple #[.slice ao (r.getD []).length cap,.bool r.isSome])∧Cel w' ao ((r.getD []).map encI)∧Below w.heap.size w w'∧(r.getD []).length≤cap
set_option maxHeartbeats 2000000 in
theorem pNodes_any (g:GD) (ao bo:Option Addr) (cap cb:Nat) (s:Int) (l:List Int) (w:World) (hl:g.es.length≤9223372036854775807) (hll:l.length≤1099511627776) (hc:Cel w ao (flat g.es)) (hd:Cel w bo (l.map encI)):
  Calls Tryz.prog 52 #[.agg #[.int .i64 g.n,.slice ao g.es.length cap],.int .i64 s,.slice bo l.length cb] w (NodesPost w (nodesG g s l)):=by
 have HC:=Lib.hid hc
 have HD:=Lib.hid hd
 clear hc hd
 have X1:=Lib.hid (fun W h1 h2=>refedges_any g ao bo cap cb l W hl (by omega) h1 h2)
 cases q1:edgesB g l with
 |false=>
  have HR:=Lib.hid (nodesG_no1 (s:=s) q1)
  rw [q1] at X1
  clear q1
  generalize nodesG g s l=r at*
  go_enter Tryz.func52,Tryz.ntmps52
  go_wp2_with fail
  obtain ⟨W,hW,c0,c1,hsW⟩:∃W,W=w.alloc (Obj.cells #[.int .i64 g.n,.slice ao g.es.length cap] 24)∧W.cell? ⟨w.heap.size,0,none⟩=some (.int .i64 g.n)∧W.cell? ⟨w.heap.size,1,none⟩=some (.slice ao g.es.length cap)∧w.heap.size<W.heap.size:=⟨_,rfl,by go_simp,by go_simp,by simp⟩
  rw [←hW]
  have HW:=Lib.hid (show Below w.heap.size w W by rw [hW];repeat (first|exact Below.refl _ _|refine Below.al ?_ _|refine Below.dr ?_ _|refine Below.drew ?_|assumption|(refine Below.st ?_ (by assumption))))
  clear hW
  refine (X1.out _ (HC.out.go HW.out) (HD.out.go HW.out)).mono ?_
  rintro e w2 ⟨rfl,hb2⟩
  have m0:=cell_later hb2 c0
  have m1:=cell_later hb2 c1
  have HW2:=Lib.hid (HW.out.st hb2)
  have hs2:w.heap.size<w2.heap.size:=by have:=hb2.size;omega
  clear c0 c1 hb2 hsW HW
  have c0:=m0
  have c1:=m1
  clear m0 m1
  go_wp2
  go_ret2
  exact ⟨none,0,by rw [HR.out];rfl,by rw [HR.out];exact Cel.nil _ _,HW2.out,by rw [HR.out];exact Nat.le_refl _⟩
 |true=>
  have HM:=Lib.hid (fun e he=>edgesB_mem q1 (e:=e) he)
  rw [q1] at X1
  by_cases q2:s<0∨g.n≤s
  ·have HR:=Lib.hid (nodesG_no2 (g:=g) (s:=s) (l:=l) (by unfold nodeB;simp;omega))
   clear q1
   generalize nodesG g s l=r at*
   by_cases q3:s<0
   all_goals
    have q4:s<0∨g.n≤s:=q2
    clear q2
    try have q5:g.n≤s:=by omega
    clear q4
    go_enter Tryz.func52,Tryz.ntmps52
    go_wp2_with fail
    obtain ⟨W,hW,c0,c1,hsW⟩:∃W,W=w.alloc (Obj.cells #[.int .i64 g.n,.slice ao g.es.length cap] 24)∧W.cell? ⟨w.heap.size,0,none⟩=some (.int .i64 g.n)∧W.cell? ⟨w.heap.size,1,none⟩=some (.slice ao g.es.length cap)∧w.heap.size<W.heap.size:=⟨_,rfl,by go_simp,by go_simp,by simp⟩
    rw [←hW]
    have HW:=Lib.hid (show Below w.heap.size w W by rw [hW];repeat (first|exact Below.refl _ _|refine Below.al ?_ _|refine Below.dr ?_ _|refine Below.drew ?_|assumption|(refine Below.st ?_ (by assumption))))
    clear hW
    refine (X1.out _ (HC.out.go HW.out) (HD.out.go HW.out)).mono ?_
    rintro e w2 ⟨rfl,hb2⟩
    have m0:=cell_later hb2 c0
    have m1:=cell_later hb2 c1
    have HW2:=Lib.hid (HW.out.st hb2)
    have hs2:w.heap.size<w2.heap.size:=by have:=hb2.size;omega
    clear c0 c1 hb2 hsW HW
    have c0:=m0
    have c1:=m1
    clear m0 m1
    go_wp2
    go_ret2
    exact ⟨none,0,by rw [HR.out];rfl,by rw [HR.out];exact Cel.nil _ _,HW2.out,by rw [HR.out];exact Nat.le_refl _⟩
  ·have HR:=Lib.hid (nodesG_yes q1 (s:=s) (by unfold nodeB;simp;omega))
   clear q1
   generalize nodesG g s l=r at*
   have q3:¬s<0:=by omega
   have q4:¬g.n≤s:=by omega
   clear q2
   go_enter Tryz.func52,Tryz.ntmps52
   go_wp2_with fail
   obtain ⟨W,hW,c0,c1,hsW⟩:∃W,W=w.alloc (Obj.cells #[.int .i64 g.n,.slice ao g.es.length cap] 24)∧W.cell? ⟨w.heap.size,0,none⟩=some (.int .i64 g.n)∧W.cell? ⟨w.heap.size,1,none⟩=some (.slice ao g.es.length cap)∧w.heap.size<W.heap.size:=⟨_,rfl,by go_simp,by go_simp,by simp⟩
   rw [←hW]
   have HW:=Lib.hid (show Below w.heap.size w W by rw [hW];repeat (first|exact Below.refl _ _|refine Below.al ?_ _|refine Below.dr ?_ _|refine Below.drew ?_|assumption|(refine Below.st ?_ (by assumption))))
   clear hW
   refine (X1.out _ (HC.out.go HW.out) (HD.out.go HW.out)).mono ?_
   rintro e w2 ⟨rfl,hb2⟩
   have m0:=cell_later hb2 c0
   have m1:=cell_later hb2 c1
   have HW2:=Lib.hid (HW.out.st hb2)
   have hs2:w.heap.size<w2.heap.size:=by have:=hb2.size;omega
   clear c0 c1 hb2 hsW HW
   have c0:=m0
   have c1:=m1
   clear m0 m1
   go_wp2
   have HO1:=Lib.hid (World.ownsRow_lit (base:=w2.heap.size) (e:=3) (size:=1) w2 #[.int .i64 s] 1 (Nat.le_refl _) (by decide) rfl)
   go_loopg [8,9] l.length (fun gg v i wr=>∃(k cap':Nat) (x:Int) (ao':Option Addr) (O:List Int),k≤l.length∧l.length-k≤gg∧i=.int .i64 k∧v=.slice ao' (k+1) cap'∧w2.heap.size≤wr.heap.size∧
    Aside (O.length=k+1∧O[k]? =some x∧wr.ownsRow w2.heap.size 3 1 (.slice ao' (k+1) cap') (k+1) (O.map encI)∧Below w2.heap.size w2 wr)∧Aside (walkGo g.es x O (l.drop k)=r))
   case atStart=>exact ⟨0,1,s,_,[s],Nat.zero_le _,by omega,rfl,rfl,by simp,⟨rfl,rfl,HO1.out,Below.of_al _ _⟩,HR.out.symm⟩
   case round=>
    clear HO1
    obtain ⟨k,cap',x,ao',O,hk,hg,rfl,rfl,hsz,HA,HG⟩:=hrel
    have m0:=cell_later HA.out.2.2.2 c0
    have m1:=cell_later HA.out.2.2.2 c1
    by_cases hlt:k<l.length
    ·obtain ⟨b,o,hbo,f1⟩:=(HD.out.go (HW2.out.st HA.out.2.2.2)).at hlt
     have hin:=HM.out l[k] (List.getElem_mem hlt)
     have hj:l[k].toNat<g.es.length:=by omega
     obtain ⟨b2,o2,hao2,j1,j2,j3⟩:=(HC.out.go (HW2.out.st HA.out.2.2.2)).edge hj
     have HY:=Lib.hid (fun h=>walk_step_yes (out:=O) (s:=x) hlt hin.1 hj h)
     have HNo:=Lib.hid (fun h=>walk_step_no (out:=O) (s:=x) hlt hin.1 hj h)
     rw [HG.out] at HY HNo
     have i0:0≤l[k]:=hin.1
     have i1:l[k]<(g.es.length:Int):=hin.2
     have k0:(0:Int)≤(k:Int):=by omega
     have k1:(k:Int)<(l.length:Int):=by omega
     have hlast:∃b3,ao'=some ⟨b3,0,none⟩∧w2.heap.size≤b3∧b3<wr.heap.size∧wr.cell? ⟨b3,k,none⟩=some (.int .i64 x):=by
      obtain ⟨g3,cap3,e3,hg3,hb3⟩:=HA.out.2.2.1.form (by omega)
      cases e3
      refine ⟨g3,rfl,hg3,hb3,?_⟩
      rw [HA.out.2.2.1.cellAt k (by omega),List.getElem?_map,HA.out.2.1]
      rfl
     obtain ⟨b3,hao3,hb3,hb3',j4⟩:=hlast
     generalize g.es[l[k].toNat]=ed at*
     generalize l[k]=ei at*
     subst hbo hao2 hao3
     have t0:(0:Int)≤(k:Int)+1-1:=by omega
     by_cases he:ed.f=x
     ·have t1:(ed.f != x)=false:=by simp [he]
      have HQ:=Lib.hid (HY.out he)
      clear he
      have u1:=fun o'=>cell_later (Below.of_al wr o') f1
      have u2:=fun o'=>cell_later (Below.of_al wr o') j1
      have u3:=fun o'=>cell_later (Below.of_al wr o') j2
      have u4:=fun o'=>cell_later (Below.of_al wr o') j3
      have u5:=fun o'=>cell_later (Below.of_al wr o') m1
      have u6:=fun o'=>cell_later (Below.of_al wr o') j4
      go_wp2
      go_region
      obtain ⟨W4,hW4,n1,n2,n4,hs4⟩:∃W4,W4=(wr.alloc (Obj.cells #[.int .i64 ed.f,.int .i64 ed.t,.int .u64 ed.w] 119)).drew∧W4.cell? ⟨wr.heap.size,0,none⟩=some (.int .i64 ed.f)∧W4.cell? ⟨wr.heap.size,1,none⟩=some (.int .i64 ed.t)∧W4.cell? ⟨b3,k,none⟩=some (.int .i64 x)∧w2.heap.size≤W4.heap.size:=⟨_,rfl,by go_simp,by go_simp,by go_simp,by simp;omega⟩
      have HO4:=Lib.hid (show W4.ownsRow w2.heap.size 3 1 (.slice (some ⟨b3,0,none⟩) (k+1) cap') (k+1) (O.map encI) by rw [hW4];exact (HA.out.2.2.1.alloc _).drew)
      have HB4:=Lib.hid (show Below w2.heap.size w2 W4 by rw [hW4];exact ((HA.out.2.2.2.alloc hsz _).drew))
      rw [←hW4]
      clear hW4 u1 u2 u3 u4 u5 u6
      go_wp2
      go_quiet (fail)
      go_wp2_with (at_builtin;go_must ((with_reducible refine wpList_app w2.heap.size 3 _ 1 8 elem_int Tryz.underlying25 (.slice (some ⟨b3,0,none⟩) (k+1) cap') (k+1) _ ⟨W4.heap.size,0,none⟩ 1 1 ?_ ?_ ?_ (World.ownsRow.alloc (owns_dr HO4.out nq) _) ?_ ?_ ?_ ?_);rotate_left 1;(· rfl);(· rfl);(· exact cell_one_new _ _ _);(· exact one_cells rfl);(· exact ⟨rfl,by decide,by omega,by omega,by simp;omega⟩);intro g1 cap1 w1 hown hgrow hbl hat hlt1;(have H1o:=Lib.hid hown;have H1b:=Lib.hid hbl;have H1g:=Lib.hid (And.intro hgrow hat);clear hown hgrow hbl hat)))
      go_roundg (l.length-(k+1))
      case measure=>omega
      case rel=>
       refine ⟨k+1,cap1,ed.t,some ⟨g1,0,none⟩,O++[ed.t],by omega,by omega,by go_num,rfl,by have:=H1b.out.size;simp at this;omega,⟨by simp [HA.out.1],?_,?_,HB4.out.trans ((Below.alloc (below_drewN (Below.refl _ _) _) (by simp;omega) _).trans H1b.out)⟩,HQ.out.symm⟩
       ·rw [List.getElem?_append_right (by rw [HA.out.1];omega),HA.out.1];simp
       ·rw [List.map_append];exact H1o.out
     ·have t1:(ed.f != x)=true:=by simp [he]
      have HQ:=Lib.hid (HNo.out he)
      clear he
      have u1:=fun o'=>cell_later (Below.of_al wr o') f1
      have u2:=fun o'=>cell_later (Below.of_al wr o') j1
      have u3:=fun o'=>cell_later (Below.of_al wr o') j2
      have u4:=fun o'=>cell_later (Below.of_al wr o') j3
      have u5:=fun o'=>cell_later (Below.of_al wr o') m1
      have u6:=fun o'=>cell_later (Below.of_al wr o') j4
      go_wp2
      go_region
      obtain ⟨W4,hW4,n1,n2,n4,hs4⟩:∃W4,W4=(wr.alloc (Obj.cells #[.int .i64 ed.f,.int .i64 ed.t,.int .u64 ed.w] 119)).drew∧W4.cell? ⟨wr.heap.size,0,none⟩=some (.int .i64 ed.f)∧W4.cell? ⟨wr.heap.size,1,none⟩=some (.int .i64 ed.t)∧W4.cell? ⟨b3,k,none⟩=some (.int .i64 x)∧w2.heap.size≤W4.heap.size:=⟨_,rfl,by go_simp,by go_simp,by go_simp,by simp;omega⟩
      have HO4:=Lib.hid (show W4.ownsRow w2.heap.size 3 1 (.slice (some ⟨b3,0,none⟩) (k+1) cap') (k+1) (O.map encI) by rw [hW4];exact (HA.out.2.2.1.alloc _).drew)
      have HB4:=Lib.hid (show Below w2.heap.size w2 W4 by rw [hW4];exact ((HA.out.2.2.2.alloc hsz _).drew))
      rw [←hW4]
      clear hW4 u1 u2 u3 u4 u5 u6
      go_wp2
      go_quiet (fail)
      go_wp2
      go_ret2
      exact ⟨none,0,by rw [HQ.out];rfl,by rw [HQ.out];exact Cel.nil _ _,HW2.out.st (HB4.out.dr _),by rw [HQ.out];exact Nat.le_refl _⟩
    ·obtain rfl:k=l.length:=by omega
     have HQ:=Lib.hid (@walk_end g.es x O l)
     rw [HG.out] at HQ
     go_wp2
     go_ret2
     obtain ⟨ao3,cap3,e3,h3⟩:=Cel.of_owns HA.out.2.2.1
     cases e3
     exact ⟨ao',cap',by rw [HQ.out];simp [HA.out.1],by rw [HQ.out];exact h3,HW2.out.st HA.out.2.2.2,by rw [HQ.out];exact HA.out.1▸cap_of_owns HA.out.2.2.1⟩
def wt (es:List EdgeD) (e:Int):Int:=(es.getD e.toNat edD).w
def offF (es:List EdgeD):Int→List Int→List Int
 |a,[]=>[a]
 |a,e::r=>a::offF es (a+wt es e) r
def offG (g:GD) (l:List Int):Option (List Int):=if edgesB g l then some (offF g.es 0 l) else none
theorem offG_yes {g:GD} {l:List Int} (h:edgesB g l=true):offG g l=some (offF g.es 0 l):=by unfold offG;rw [h];rfl
def weightG (g:GD) (l:List Int):Option Int:=(offG g l).map fun L=>(L[l.length]?).getD 0
theorem walkGo_length (es:List EdgeD):∀(l:List Int) (s:Int) (out O:List Int),walkGo es s out l=some O→O.length=out.length+l.length
 |[],_,out,O,h=>by simp [walkGo] at h;subst h;rfl
 |e::r,s,out,O,h=>by
  unfold walkGo at h
  split at h
  ·have:=walkGo_length es r _ _ O h
   simp at this ⊢
   omega
  ·cases h
theorem nodesG_length {g:GD} {s:Int} {l O:List Int} (h:nodesG g s l=some O):O.length=l.length+1:=by
 unfold nodesG at h
 split at h
 ·have:=walkGo_length _ _ _ _ _ h
  simp at this;omega
 ·cases h
def isB (g:GD) (s t:Int) (l:List Int):Bool:=match nodesG g s l with|some O=>((O[O.length-1]?).getD 0==t)|none=>false
set_option maxHeartbeats 1000000 in
theorem refIs_any (g:GD) (ao bo:Option Addr) (cap cb:Nat) (s t:Int) (l:List Int) (w:World) (hl:g.es.length≤9223372036854775807) (hll:l.length≤1099511627776) (hc:Cel w ao (flat g.es)) (hd:Cel w bo (l.map encI)):
  Calls Tryz.prog 51 #[.agg #[.int .i64 g.n,.slice ao g.es.length cap],.int .i64 s,.int .i64 t,.slice bo l.length cb] w fun e w'=>e=.returned (.bool (isB g s t l))∧Below w.heap.size w w':=by
 have HC:=Lib.hid hc
 have HD:=Lib.hid hd
 clear hc hd
 have X1:=Lib.hid (fun W h1 h2=>pNodes_any g ao bo cap cb s l W hl hll h1 h2)
 cases hr:nodesG g s l with
 |none=>
  have HR:=Lib.hid (show isB g s t l=false by unfold isB;rw [hr])
  rw [hr] at X1
  generalize isB g s t l=r at*
  go_enter Tryz.func51,Tryz.ntmps51
  go_wp2_with (go_at_call 52;refine (X1.out _ (HC.out.go (by repeat (first|exact Below.refl _ _|refine Below.al ?_ _|refine Below.dr ?_ _|refine Below.drew ?_|assumption|(refine Below.st ?_ (by assumption))))) (HD.out.go (by repeat (first|exact Below.refl _ _|refine Below.al ?_ _|refine Below.dr ?_ _|refine Below.drew ?_|assumption|(refine Below.st ?_ (by assumption)))))).mono ?_;rintro e w1 ⟨a1,p1,rfl,hc1,hb1,-⟩;simp only [Option.isSome_none])
  go_ret
  exact ⟨by rw [HR.out];rfl,by repeat (first|exact Below.refl _ _|refine Below.al ?_ _|refine Below.dr ?_ _|refine Below.drew ?_|assumption|(refine Below.st ?_ (by assumption)))⟩
 |some O=>
  have hO:=nodesG_length hr
  have HR:=Lib.hid (show isB g s t l=((O[O.length-1]?).getD 0==t) by unfold isB;rw [hr])
  rw [hr] at X1
  clear hr
  generalize isB g s t l=r at*
  have h1:1≤O.length:=by omega
  have h2:O.length≤1099511627777:=by omega
  clear hO
  go_enter Tryz.func51,Tryz.ntmps51
  go_wp2_with fail
  refine (X1.out _ (HC.out.go (by repeat (first|exact Below.refl _ _|refine Below.al ?_ _|refine Below.dr ?_ _|refine Below.drew ?_|assumption|(refine Below.st ?_ (by assumption))))) (HD.out.go (by repeat (first|exact Below.refl _ _|refine Below.al ?_ _|refine Below.dr ?_ _|refine Below.drew ?_|assumption|(refine Below.st ?_ (by assumption)))))).mono ?_
  rintro e w1 ⟨a1,p1,rfl,hc1,hb1,-⟩
  have HB1:=Lib.hid hb1
  have hx:∃x,O[O.length-1]? =some x:=⟨_,List.getElem?_eq_getElem (by omega)⟩
  obtain ⟨x,hx⟩:=hx
  have hcell:∃b1 o1,a1=some ⟨b1,o1,none⟩∧w1.cell? ⟨b1,o1+(O.length-1),none⟩=some (.int .i64 x):=by
   obtain ⟨b',o',e',h'⟩:=hc1 (O.length-1) (.int .i64 x) (by simp [hx])
   exact ⟨b',o',e',h'⟩
  obtain ⟨b1,o1,rfl,hcell⟩:=hcell
  have HX:=Lib.hid hx
  clear hx hc1 hb1
  simp only [Option.getD_some,Option.isSome_some]
  go_wp2
  go_ret
  exact ⟨by rw [HR.out,HX.out];rfl,by have:=HB1.out;repeat (first|exact Below.refl _ _|refine Below.al ?_ _|refine Below.dr ?_ _|refine Below.drew ?_|assumption|(refine Below.st ?_ (by assumption)))⟩
end Go.Proofs.YtkdomobedfhhgaaGreat
end
section
namespace Go.Proofs.YtkdomobedfhhgaaGreat
open Go Go.Proofs Go.RowKit Go.Shelf Go.Proofs.YtkdomobedfhhgaaGreat.Hp Go.Proofs.YtkdomobedfhhgaaGreat.Ch
inductive PE (es:List EdgeD):Int→List Int→Int→Int→List Int→Prop
 |one {e:Int} {y:EdgeD} (h0:0≤e) (h:es[e.toNat]? =some y):PE es y.f [e] y.t y.w []
 |two {u m v d d':Int} {l l' I I':List Int} (h:PE es u l m d I) (h':PE es m l' v d' I'):PE es u (l++l') v (d+d') (I++m::I')
theorem PE.walk {es:List EdgeD} {u v d:Int} {l I:List Int} (h:PE es u l v d I):∀out r,walkGo es u out (l++r)=walkGo es v (out++I++[v]) r:=by
 induction h with
 |one h0 h=>
  intro out r
  rename_i e y
  have he:es.getD e.toNat edD=y:=by rw [List.getD_eq_getElem?_getD,h];rfl
  show walkGo es y.f out (e::r)=_
  rw [walkGo,he,if_pos rfl,List.append_nil]
 |two h h' ih ih'=>
  intro out r
  rw [List.append_assoc,ih,ih']
  congr 1
  simp
theorem PE.mem {es:List EdgeD} {u v d:Int} {l I:List Int} (h:PE es u l v d I):∀e∈l,0≤e∧e<(es.length:Int):=by
 induction h with
 |one h0 h=>
  intro e he
  obtain rfl:=List.mem_singleton.1 he
  have:=(List.getElem?_eq_some_iff.1 h).1
  omega
 |two h h' ih ih'=>
  intro e he
  rcases List.mem_append.1 he with he|he
  ·exact ih e he
  ·exact ih' e he
theorem PE.sum {es:List EdgeD} {u v d:Int} {l I:List Int} (h:PE es u l v d I):(l.map (wt es)).sum=d:=by
 induction h with
 |one h0 h=>
  rename_i e y
  have he:es.getD e.toNat edD=y:=by rw [List.getD_eq_getElem?_getD,h];rfl
  show (es.getD e.toNat edD).w+0=y.w
  rw [he]
  exact Int.add_zero _
 |two h h' ih ih'=>rw [List.map_append,List.sum_append,ih,ih']
theorem PE.ne {es:List EdgeD} {u v d:Int} {l I:List Int} (h:PE es u l v d I):l≠[]:=by
 induction h with
 |one h0 h=>simp
 |two h h' ih ih'=>simp [ih]
theorem offF_last (es:List EdgeD):∀(l:List Int) (a:Int),(offF es a l)[l.length]? =some (a+(l.map (wt es)).sum)
 |[],a=>by simp [offF]
 |e::r,a=>by
  show (offF es (a+wt es e) r)[r.length]? =_
  rw [offF_last es r]
  simp
  omega
theorem edgesB_of {g:GD} {l:List Int} (hg:rightG g=0) (h:∀e∈l,0≤e∧e<(g.es.length:Int)):edgesB g l=true:=by
 unfold edgesB
 rw [hg]
 simp only [beq_self_eq_true,Bool.true_and,Bool.not_eq_true',List.any_eq_false]
 intro e he
 have:=h e he
 simp [edgeB]
 omega
theorem PE.weight {g:GD} {u v d:Int} {l I:List Int} (hg:rightG g=0) (h:PE g.es u l v d I):weightG g l=some d:=by
 unfold weightG
 rw [offG_yes (edgesB_of hg h.mem),Option.map_some,offF_last,h.sum]
 simp
theorem PE.nodes {g:GD} {u v d:Int} {l I:List Int} (hg:rightG g=0) (h:PE g.es u l v d I) (hu:nodeB g.n u=true):nodesG g u l=some ([u]++I++[v]):=by
 rw [nodesG_yes (edgesB_of hg h.mem) hu]
 have:=h.walk [u] []
 rw [List.append_nil] at this
 rw [this,walkGo]
theorem PE.is {g:GD} {u v d:Int} {l I:List Int} (hg:rightG g=0) (h:PE g.es u l v d I) (hu:nodeB g.n u=true):isB g u v l=true:=by
 unfold isB
 rw [h.nodes hg hu]
 simp
theorem made_way {es:List EdgeD} {R:List Int} {S:List SC} (h:∀j,j<S.length→madeB es R S j=true) (hw:∀x∈S,0≤x.w∧x.w≤9007199254740992):∀i,i<S.length→
  ∃I,PE es (S.getD i scZ).f (unL S i) (S.getD i scZ).t (S.getD i scZ).w I∧∀m∈I,rAt R m<rAt R (S.getD i scZ).f∧rAt R m<rAt R (S.getD i scZ).t:=by
 have hF:=made_fed h
 have hbd:∀i,i<S.length→0≤(S.getD i scZ).w∧(S.getD i scZ).w≤9007199254740992:=fun i hi=>by
  rw [List.getD_eq_getElem?_getD,List.getElem?_eq_getElem hi]
  exact hw _ (List.getElem_mem hi)
 intro i
 induction i using Nat.strongRecOn with
 |ind i ih=>
  intro hi
  have hm:=h i hi
  unfold madeB at hm
  rw [Bool.or_eq_true] at hm
  rcases hm with h1|h1
  ·obtain ⟨h0,y,hy,e1,e2,e3⟩:=edgeF_e h1
   rw [unL_edge h0,←e1,←e2,←e3]
   exact ⟨[],.one h0 hy,by simp⟩
  ·obtain ⟨e,a,b,ea,eb,ha,hb,h2,h3,h4,h5,h6,h7⟩:=twoF_e h1
   obtain ⟨I,p1,q1⟩:=ih a ha (by omega)
   obtain ⟨I',p2,q2⟩:=ih b hb (by omega)
   rw [unL_two hF hi (by omega) ea eb ha hb,←h5,wrapU_in ⟨by have:=hbd a (by omega);have:=hbd b (by omega);omega,by have:=hbd a (by omega);have:=hbd b (by omega);omega⟩]
   rw [←h3] at p2 q2
   rw [h2] at p1 q1
   rw [h4] at p2 q2
   refine ⟨I++(S.getD a scZ).t::I',.two p1 p2,fun m hm=>?_⟩
   rcases List.mem_append.1 hm with hm|hm
   ·have:=q1 m hm
    omega
   ·rcases List.mem_cons.1 hm with rfl|hm
    ·omega
    ·have:=q2 m hm
     omega
end Go.Proofs.YtkdomobedfhhgaaGreat
end
