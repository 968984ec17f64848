/- Walk of package witness: the search itself. -/
import Derived.Test.YteaaapdjplbljaaGreatProg
import Derived.Test.YteaaapdjplbljaaGreatLw09
set_option linter.unusedVariables false
set_option linter.unusedSimpArgs false
set_option linter.unnecessarySimpa false
namespace Go.Proofs.YteaaapdjplbljaaGreat
open Go Go.Proofs Go.RowKit Go.Shelf Go.Proofs.YteaaapdjplbljaaGreat.Hp Go.Proofs.YteaaapdjplbljaaGreat.Ch
def SeaPost (O:List (List (Int×Int))) (gone:List Bool) (s t:Nat) (below:Int) (w:World) (e:Ending) (w':World):Prop:=
 ∃d b,e=.returned (.tuple #[.int .u64 d,.bool b])∧(b=true→Way0 (NR O gone) Any s t d∧d<below)∧Below w.heap.size w w'
set_option maxRecDepth 100000 in
set_option maxHeartbeats 4000000 in
theorem search_gone (O:List (List (Int×Int))) (gone:List Bool) (vo vg:Value) (s t:Nat) (below hops settles:Int) (w:World) (hn:NetW w vo vg O gone) (hs:s<gone.length) (ht:t<gone.length) (hg:gone[s]=true∨gone[t]=true):
  Calls Tryz.prog 231 #[.agg #[vo,vg],.int .i64 s,.int .i64 t,.int .u64 below,.int .i64 hops,.int .i64 settles] w (SeaPost O gone s t below w):=by
 obtain ⟨ao,co,go,cg,rows,rfl,rfl,h3,h4,h5,h6⟩:=hn
 obtain ⟨gb,gof,e1,c1⟩:=h5.at (i:=s) hs
 subst e1
 obtain ⟨gb',gof',e2,c2⟩:=h5.at (i:=t) ht
 cases e2
 have hs0:(0:Int)≤(s:Int):=by omega
 have hs1:(s:Int)<(gone.length:Int):=by omega
 have ht0:(0:Int)≤(t:Int):=by omega
 have ht1:(t:Int)<(gone.length:Int):=by omega
 have f1:=fun o=>cell_later (Below.of_al w o) c1
 have f2:=fun o=>cell_later (Below.of_al w o) c2
 clear h3 h4 h5 h6
 unfold SeaPost
 generalize gone[s]=g1 at*
 generalize gone[t]=g2 at*
 cases g1 with
 |true=>
  go_enter Tryz.func231,Tryz.ntmps231
  repeat go_step
  refine wp_scope_straight ?_
  go_wp2
  try simp only [Exit.noGoto]
  refine bodyPost_ret (v:=.tuple #[.int .u64 0,.bool false]) (by simp [results,Tryz.results231,go_sem];try rfl) rfl ?_
  exact ⟨0,false,rfl,by simp,Below.of_al _ _⟩
 |false=>
  obtain rfl:g2=true:=by simpa using hg
  go_enter Tryz.func231,Tryz.ntmps231
  repeat go_step
  refine wp_scope_straight ?_
  go_wp2
  try simp only [Exit.noGoto]
  refine bodyPost_ret (v:=.tuple #[.int .u64 0,.bool false]) (by simp [results,Tryz.results231,go_sem];try rfl) rfl ?_
  exact ⟨0,false,rfl,by simp,Below.of_al _ _⟩
theorem sr_next {W w1 w2:World} {a:Addr} {v:Value} (hb:Below w1.heap.size w1 w2) (h:w1.cell? a=some v∧Below W.heap.size W w1):w2.cell? a=some v∧Below W.heap.size W w2:=⟨cell_later hb h.1,h.2.st hb⟩
theorem run_mk_int (n:Nat) (hn:n≤60000) (W:World):(Instr.makeSlice 25 (.int .i64 (n:Int)) (.int .i64 (n:Int))).run Tryz.prog W=.ok (.slice (some ⟨W.heap.size,0,none⟩) n n) (W.alloc (.cells (madeCells #[.int .i64 0] n) 3)):=by
 obtain ⟨i,hi,hz,hsz,hby⟩:=info_parts hp_elemi.1
 have hr:=run_make (P:=Tryz.prog) W 25 3 i (.int .i64 0) Tryz.underlying25 hi hz .i64 .i64 n n (by omega) (Int.le_refl _) (by rw [hby];omega) (by omega)
 simp only [Int.toNat_natCast,hsz,Nat.mul_one] at hr
 exact hr
theorem sr_mk {W Z:World} {sb rb fb hb ab n:Nat} (hst:StW Z sb rb (List.replicate n none)) (hhp:HeapW Z hb (.slice none 0 0) (.slice (some ⟨ab,0,none⟩) n n) [] (List.replicate n (-1)))
  (hsp:Z.ownsRow 0 3 1 (.slice (some ⟨fb,0,none⟩) n n) n (List.replicate n (.int .i64 0))) (hb':Below W.heap.size W Z) (g1:W.heap.size≤sb∧W.heap.size≤rb∧W.heap.size≤fb∧W.heap.size≤hb∧W.heap.size≤ab)
  (g2:hb≠sb∧hb≠rb∧hb≠fb∧ab≠sb∧ab≠rb∧ab≠fb∧fb≠sb∧fb≠rb):SrW W Z sb rb fb hb (.slice (some ⟨ab,0,none⟩) n n) (.slice none 0 0) (List.replicate n none) (List.replicate n 0) [] (List.replicate n (-1)):=by
 have hx:∀k,HX hb (.slice none 0 0) (.slice (some ⟨ab,0,none⟩) n n) k→k=hb∨k=ab:=by
  rintro k (hk|hk|hk)
  ·exact .inl hk
  ·simp [Value.ownBlock] at hk
  ·simp [Value.ownBlock] at hk
   exact .inr hk.symm
 refine ⟨hst,hhp,?_,hb',⟨g1.1,g1.2.1,g1.2.2.1,?_⟩,?_,g2.2.2.2.2.2.2⟩
 ·rw [List.length_replicate,List.map_replicate]
  exact hsp
 ·intro k hk
  rcases hx k hk with rfl|rfl
  ·exact g1.2.2.2.1
  ·exact g1.2.2.2.2
 ·intro k hk
  obtain ⟨a1,a2,a3,a4,a5,a6,_,_⟩:=g2
  rcases hx k hk with rfl|rfl
  ·exact ⟨a1,a2,a3⟩
  ·exact ⟨a4,a5,a6⟩
theorem own_mk (n:Nat) (hn:n≤60000) (W:World):(W.alloc (.cells (madeCells #[.int .i64 0] n) 3)).ownsRow 0 3 1 (.slice (some ⟨W.heap.size,0,none⟩) n n) n (List.replicate n (.int .i64 0)):=by
 have:=World.ownsRow_lit (base:=0) (e:=3) (size:=1) W (madeCells #[.int .i64 0] n) n (Nat.zero_le _) (by unfold maxLen;omega) (by rw [size_madeCells];simp)
 rw [toList_madeCells_one] at this
 exact this
theorem hx_lt {W:World} {b:Nat} {v va:Value} {l:List IK} {p:List Int} (h:HeapW W b v va l p):∀k,HX b v va k→k<W.heap.size:=by
 rintro k (rfl|hk|hk)
 ·exact h.pb.lt
 ·exact (h.ol.lt k hk).2
 ·exact (h.oa.lt k hk).2
set_option maxRecDepth 100000 in
set_option maxHeartbeats 8000000 in
theorem search_run (O:List (List (Int×Int))) (gone:List Bool) (vo vg:Value) (s t settles:Nat) (below hops B:Int) (w:World) (hn:NetW w vo vg O gone) (hs:s<gone.length) (ht:t<gone.length) (hg1:gone[s]=false) (hg2:gone[t]=false)
  (hO:NetOK O gone B) (hB:0≤B∧B≤1152921504606846976) (hbl:0≤below∧below≤1152921504606846976) (hse:settles≤1000000) (hlen:O.length≤60000) (hrow:∀l∈O,l.length≤1000000):
  Calls Tryz.prog 231 #[.agg #[vo,vg],.int .i64 s,.int .i64 t,.int .u64 below,.int .i64 hops,.int .i64 settles] w (SeaPost O gone s t below w):=by
 have HN:=Lib.hid hn
 obtain ⟨ao,co,go,cg,rows,rfl,rfl,h3,h4,h5,h6⟩:=hn
 obtain ⟨gb,gof,e1,c1⟩:=h5.at (i:=s) hs
 subst e1
 obtain ⟨gb',gof',e2,c2⟩:=h5.at (i:=t) ht
 cases e2
 have hs0:(0:Int)≤(s:Int):=by omega
 have hs1:(s:Int)<(gone.length:Int):=by omega
 have ht0:(0:Int)≤(t:Int):=by omega
 have ht1:(t:Int)<(gone.length:Int):=by omega
 rw [hg1] at c1
 rw [hg2] at c2
 have f1:=fun o=>cell_later (Below.of_al w o) c1
 have f2:=fun o=>cell_later (Below.of_al w o) c2
 clear h3 h4 h5 h6 hg1 hg2
 unfold SeaPost
 go_enter Tryz.func231,Tryz.ntmps231
 repeat go_step
 refine wp_scope_straight ?_
 go_upto_region 3 with (fail)
 obtain ⟨W,hW⟩:∃W,W=w.alloc (Obj.cells #[.slice ao O.length co,.slice (some ⟨gb,gof,none⟩) gone.length cg] 179):=⟨_,rfl⟩
 have HB:=Lib.hid (show Below w.heap.size w W by rw [hW];exact Below.of_al _ _)
 have HNW:=Lib.hid (HN.out.go HB.out)
 have b0:W.cell? ⟨w.heap.size,0,none⟩=some (.slice ao O.length co):=by rw [hW];go_simp
 have b1:W.cell? ⟨w.heap.size,1,none⟩=some (.slice (some ⟨gb,gof,none⟩) gone.length cg):=by rw [hW];go_simp
 have HBX:=Lib.hid (⟨b0,b1⟩:_∧_)
 have HK:w.heap.size<W.heap.size:=World.block_lt_of_cell? _ _ b0
 have HKH:=Lib.hid HK
 rw [←hW]
 clear hW f1 f2 c1 c2 HN
 have hmk:=run_mk_int O.length hlen
 obtain ⟨ob,oo,hao,hrow0⟩:∃ob oo,ao=some ⟨ob,oo,none⟩∧(∀u (hu:u<O.length),∃ai ci,W.cell? ⟨ob,oo+u,none⟩=some (.slice ai O[u].length ci)∧Cel W ai (flatI O[u])):=by
  obtain ⟨ao',co',go',cg',rows,e1,e2,h3,h4,h5,h6⟩:=HNW.out
  cases e1
  have h0:0<O.length:=by rw [←hO.len];omega
  obtain ⟨ai,ci,k1,_⟩:=h6 0 h0
  obtain ⟨ob,oo,rfl,_⟩:=h3 0 _ k1
  refine ⟨ob,oo,rfl,?_⟩
  intro u hu
  obtain ⟨ai,ci,k1,k2⟩:=h6 u hu
  obtain ⟨b',o',e,k3⟩:=h3 u _ k1
  cases e
  exact ⟨ai,ci,k3,k2⟩
 subst hao
 have HROW:=Lib.hid hrow0
 clear hrow0
 have HGO:=Lib.hid (show ∀k (hk:k<gone.length),W.cell? ⟨gb,gof+k,none⟩=some (.bool gone[k]) by
  obtain ⟨ao',co',go',cg',rows,e1,e2,h3,h4,h5,h6⟩:=HNW.out
  cases e2
  intro k hk
  obtain ⟨b',o',e,k3⟩:=h5.at (i:=k) hk
  cases e
  exact k3)
 go_region_held3 (fun w'=>w'.cell? ⟨w.heap.size,0,none⟩=some (.slice (some ⟨ob,oo,none⟩) O.length co)∧Below W.heap.size W w') (first
   |assumption
   |exact ⟨b0,Below.of_dr W 1⟩
   |exact sr_next (by assumption) (by assumption)
   |exact sr_next (Below.of_al _ _) (by assumption)) (first
   |(go_at_call 181;refine (sNew_any O.length (by omega) _).mono ?_;rintro e wS ⟨sb,rb,rfl,hst,hs1',hs2',hbS⟩)
   |(go_at_call 162;refine (hNew_any O.length (by omega) _).mono ?_;rintro e wH ⟨hb,ab,rfl,hhp,hh1',hh2',hbH⟩))
 all_goals
  rename_i hHeld
  first
   |(
    have hz1:W.heap.size≤wS.heap.size:=hbS.size
    have hzM:(wS.alloc (Obj.cells (madeCells #[Value.int IntKind.i64 0] O.length) 3)).heap.size=wS.heap.size+1:=by simp
    have hs3:=hst.lt
    have hd:W.drew.heap.size=W.heap.size:=rfl
    have HSR0:=Lib.hid (sr_mk (W:=W) ((hst.go (Below.of_al _ _)).go hbH) hhp (hp_owns_go (own_mk O.length hlen wS) hbH) hHeld.2 ⟨by omega,by omega,by omega,by omega,by omega⟩ ⟨by omega,by omega,by omega,by omega,by omega,by omega,by omega,by omega⟩)
    clear hst hhp hs1' hs2' hh1' hh2' hbS hbH hHeld hz1 hzM hs3 hd
    generalize wS.heap.size=fb at HSR0 ⊢
    generalize wH=Z at HSR0 ⊢)
   |(
    have hz1:W.heap.size≤wS.heap.size:=hbS.size
    have hz2:wS.heap.size≤wH.heap.size:=hbH.size
    have hs3:=hst.lt
    have hh3:=hhp.pb.lt
    have hh4:=(hhp.oa.lt ab rfl).2
    have hd:W.drew.heap.size=W.heap.size:=rfl
    have HSR0:=Lib.hid (sr_mk (W:=W) ((hst.go hbH).go (Below.of_al _ _)) (hhp.go (Below.of_al _ _)) (own_mk O.length hlen wH) hHeld.2 ⟨by omega,by omega,by omega,by omega,by omega⟩ ⟨by omega,by omega,by omega,by omega,by omega,by omega,by omega,by omega⟩)
    clear hst hhp hs1' hs2' hh1' hh2' hbS hbH hHeld hz1 hz2 hs3 hh3 hh4 hd
    generalize wH.alloc (Obj.cells (madeCells #[Value.int IntKind.i64 0] O.length) 3)=Z at HSR0 ⊢
    generalize wH.heap.size=fb at HSR0 ⊢)
   |(
    have hzM:(W.alloc (Obj.cells (madeCells #[Value.int IntKind.i64 0] O.length) 3)).heap.size=W.heap.size+1:=by simp
    have hd:(W.alloc (Obj.cells (madeCells #[Value.int IntKind.i64 0] O.length) 3)).drew.heap.size=(W.alloc (Obj.cells (madeCells #[Value.int IntKind.i64 0] O.length) 3)).heap.size:=rfl
    have hz1:=hbS.size
    have hs3:=hst.lt
    have HSR0:=Lib.hid (sr_mk (W:=W) (hst.go hbH) hhp (hp_owns_go (hp_owns_go (owns_dr (own_mk O.length hlen W) 1) hbS) hbH) hHeld.2 ⟨by omega,by omega,by omega,by omega,by omega⟩ ⟨by omega,by omega,by omega,by omega,by omega,by omega,by omega,by omega⟩)
    clear hst hhp hs1' hs2' hh1' hh2' hbS hbH hHeld hz1 hzM hs3 hd
    generalize W.heap.size=fb at HSR0 ⊢
    generalize wH=Z at HSR0 ⊢)
 all_goals
  have hsO:s<O.length:=by rw [←hO.len];exact hs
  have HO:=Lib.hid hO
  have HLEN:=Lib.hid hlen
  have HSB:=Lib.hid (show SInv O gone B below (s:Int) ((List.replicate O.length none).set s (some 0)) (putF [] (List.replicate O.length (-1)) s 0).2.1 (putF [] (List.replicate O.length (-1)) s 0).2.2 by
   have:=SInv.begin (O:=O) (gone:=gone) (B:=B) (M:=below) (s:=(s:Int)) ⟨by omega,by omega⟩ (by omega)
   simpa using this)
  have hse1:(settles:Int)≤1000000:=by omega
  have hse2:(0:Int)≤(settles:Int):=by omega
  have hmax:max (settles:Int) 0=(settles:Int):=Int.max_eq_left hse2
  clear b0 b1 HK hmk hO hlen
  go_wp2_with (first
   |(go_at_call 266;refine (sPut_any sb rb s 0 _ _ HSR0.out.s1 (by rw [List.length_replicate];exact hsO)).mono ?_;rintro e w1 ⟨rfl,hs1,ho1⟩;(have HSR1:=Lib.hid (HSR0.out.stamp hs1 ho1);clear hs1 ho1))
   |(go_at_call 163;refine (hPut_any hb s 0 _ _ _ _ _ HSR1.out.hp (heap_new O.length) (by rw [List.length_replicate];exact hsO) (by simp)).mono ?_;rintro e w2 ⟨rfl,v2,hh2,ho2,hv2⟩;(have HSR2:=Lib.hid (HSR1.out.heap hh2 ho2 hv2);clear hh2 ho2 hv2)))
  go_step3
  go_wp2
  go_loopg [54] settles (fun gg v54 wr=>∃(i:Nat) (far:List (Option Int)) (st:List Int) (l:List IK) (p:List Int) (v:Value),i≤settles∧settles-i≤gg∧v54=.int .i64 i∧Aside (SInv O gone B below (s:Int) far l p)∧Aside (SrW W wr sb rb fb hb (.slice (some ⟨ab,0,none⟩) O.length O.length) v far st l p)∧Aside (st.length=O.length∧∀x∈st,0≤x∧x≤i*1000001))
  case atStart=>exact ⟨0,_,_,_,_,v2,Nat.zero_le _,by omega,rfl,HSB.out,HSR2.out,by simp,by simp⟩
  case round=>
   clear HSB HSR2 HSR1 HSR0
   obtain ⟨i,far,st,l,p,v,hi,hgg,rfl,HSI,HSR,HST⟩:=hrel
   by_cases hlt:i<settles
   ·have hlt2:(i:Int)<(settles:Int):=by omega
    have HPP:=Lib.hid (hPop_any hb v _ l p wr HSR.out.hp HSI.out.ok (by have:=heap_len HSI.out.ok;have:=HSI.out.lp;have:=HLEN.out;omega))
    unfold PopPost at HPP
    cases l with
    |nil=>
     go_wp2_with (go_at_call 165;refine HPP.out.mono ?_;unfold topF;rintro e w3 ⟨rfl,h3⟩;(have hb3:Below wr.heap.size wr w3:=h3.elim (fun h=>h.2) (fun h=>absurd rfl h.1));clear h3)
     try simp only [Exit.noGoto]
     refine bodyPost_ret (v:=.tuple #[.int .u64 0,.bool false]) (by simp [results,Tryz.results231,go_sem];try rfl) rfl ?_
     exact ⟨0,false,rfl,by simp,HB.out.st (HSR.out.bel.st hb3)⟩
    |cons x r=>
     obtain ⟨xv,d⟩:=x
     obtain ⟨xn,xf,xw,xd0,xdM,xi⟩:=HSI.out.pop rfl
     simp only at xn xf xw xd0 xdM xi
     obtain ⟨u,rfl⟩:∃u:Nat,xv=(u:Int):=⟨xv.toNat,by have:=xn.1;omega⟩
     have huO:u<O.length:=by have:=xn.2;omega
     have HXI:=Lib.hid xi
     have HXW:=Lib.hid xw
     have HXF:=Lib.hid xf
     clear xi xw xf xn
     have hu0:(0:Int)≤(u:Int):=by omega
     have hu1:(u:Int)<(O.length:Int):=by omega
     have HST2:=Lib.hid HST.out
     have hstl:st.length=O.length:=HST.out.1
     have hsu:∃y,st[u]? =some y:=⟨st[u]'(by omega),List.getElem?_eq_getElem _⟩
     obtain ⟨y,hy⟩:=hsu
     have HY:=Lib.hid (HST.out.2 y (List.mem_of_getElem? hy))
     have HYG:=Lib.hid hy
     clear hy hstl
     have hP3:=fun (e:Ending) (w3:World) (h:e=Ending.returned (topF (((u:Int),d)::r))∧(((u:Int),d)::r=[]∧Below wr.heap.size wr w3∨((u:Int),d)::r≠[]∧∃v',HeapW w3 hb v' (Value.slice (some ⟨ab,0,none⟩) O.length O.length) (dropF (((u:Int),d)::r) p (gI (((u:Int),d)::r) 0).1.toNat 0).1 (dropF (((u:Int),d)::r) p (gI (((u:Int),d)::r) 0).1.toNat 0).2∧OffX (HX hb v (Value.slice (some ⟨ab,0,none⟩) O.length O.length)) wr w3∧v'.ownBlock=v.ownBlock))=>
      (show ∃v3,SrW W w3 sb rb fb hb (.slice (some ⟨ab,0,none⟩) O.length O.length) v3 far st (dropF (((u:Int),d)::r) p (u:Int).toNat 0).1 (dropF (((u:Int),d)::r) p (u:Int).toNat 0).2 by
       rcases h.2 with ⟨h1,_⟩|⟨_,v3,h2,h3,h4⟩
       ·cases h1
       ·exact ⟨v3,HSR.out.heap h2 h3 (.inl h4)⟩)
     have HP3:=Lib.hid hP3
     clear hP3
     by_cases hdb:below≤d
     ·have hdb2:decide (d≥below)=true:=decide_eq_true hdb
      go_wp2_with (go_at_call 165;refine HPP.out.mono ?_;rintro e w3 h3;(obtain ⟨v3,hs3⟩:=HP3.out e w3 h3);unfold topF at h3;obtain ⟨rfl,-⟩:=h3)
      try simp only [Exit.noGoto]
      refine bodyPost_ret (v:=.tuple #[.int .u64 0,.bool false]) (by simp [results,Tryz.results231,go_sem];try rfl) rfl ?_
      exact ⟨0,false,rfl,by simp,HB.out.st hs3.bel⟩
     ·have hdb1:d<below:=by omega
      have hdb2:decide (d≥below)=false:=decide_eq_false hdb
      by_cases hut:u=t
      ·have hut2:((u:Int)==(t:Int))=true:=by simp [hut]
       have HUT:=Lib.hid hut
       have HD:=Lib.hid hdb1
       clear hut hdb
       go_wp2_with (go_at_call 165;refine HPP.out.mono ?_;rintro e w3 h3;(obtain ⟨v3,hs3⟩:=HP3.out e w3 h3);unfold topF at h3;obtain ⟨rfl,-⟩:=h3)
       try simp only [Exit.noGoto]
       refine bodyPost_ret (v:=.tuple #[.int .u64 d,.bool true]) (by simp [results,Tryz.results231,go_sem];try rfl) rfl ?_
       exact ⟨d,true,rfl,fun _=>⟨by rw [←HUT.out];exact HXW.out,HD.out⟩,HB.out.st hs3.bel⟩
      ·have hut2:((u:Int)==(t:Int))=false:=by rw [beq_eq_false_iff_ne];omega
       clear hut hdb
       by_cases hhop:hops≤y
       ·have hhop2:decide (y≥hops)=true:=decide_eq_true hhop
        go_wp2_with (go_at_call 165;refine HPP.out.mono ?_;rintro e w3 h3;(obtain ⟨v3,hs3⟩:=HP3.out e w3 h3);unfold topF at h3;obtain ⟨rfl,-⟩:=h3;(have HS3:=Lib.hid hs3);(have q3:=(hs3.sp.cellAt u (by have:=HST2.out.1;omega)).trans (show (st.map encI)[u]? =some (Value.int .i64 y) by rw [List.getElem?_map,HYG.out];rfl));clear hs3)
        go_roundg (settles-(i+1))
        case measure=>omega
        case rel=>exact ⟨i+1,far,st,_,_,v3,by omega,Nat.le_refl _,by go_num,HXI.out,HS3.out,HST2.out.1,fun x hx=>by have:=HST2.out.2 x hx;omega⟩
       ·have hhop2:decide (y≥hops)=false:=decide_eq_false (by omega)
        have hyb:=HY.out
        obtain ⟨ai,ci,hc1,hc2⟩:=HROW.out u huO
        have HLR:=Lib.hid (hrow O[u] (List.getElem_mem huO))
        have HARC:=Lib.hid (fun j (hj:j<O[u].length)=>HO.out.arcs (u:Int) (O[u][j]) ⟨by omega,by omega⟩ (by unfold rowO;simp [huO]))
        have HMEM:=Lib.hid (fun j (hj:j<O[u].length)=>(show O[u][j]∈rowO O (u:Int) by unfold rowO;simp [huO]))
        have HCE:=Lib.hid hc2
        have HR1:=Lib.hid hc1
        have HUN:=Lib.hid (show nodeN O.length (u:Int) from ⟨by omega,by omega⟩)
        have HDL:=Lib.hid hdb1
        clear hc1 hc2 hhop
        generalize O[u]=L at*
        go_wp2_with (go_at_call 165;refine HPP.out.mono ?_;rintro e w3 h3;(obtain ⟨v3,hs3⟩:=HP3.out e w3 h3);unfold topF at h3;obtain ⟨rfl,-⟩:=h3;(have HS3:=Lib.hid hs3);(have q3:=(hs3.sp.cellAt u (by have:=HST2.out.1;omega)).trans (show (st.map encI)[u]? =some (Value.int .i64 y) by rw [List.getElem?_map,HYG.out];rfl));(have b3:=cell_later hs3.bel HBX.out.1);(have r3:=cell_later hs3.bel HR1.out);clear hs3)
        go_loopg [88] L.length (fun g2 v88 wr2=>∃(j:Nat) (far':List (Option Int)) (st':List Int) (l':List IK) (p':List Int) (v':Value),j≤L.length∧L.length-j≤g2∧v88=.int .i64 j∧Aside (SInv O gone B below (s:Int) far' l' p')∧Aside (SrW W wr2 sb rb fb hb (.slice (some ⟨ab,0,none⟩) O.length O.length) v' far' st' l' p')∧Aside (st'.length=O.length∧∀x∈st',0≤x∧x≤i*1000001+j))
        case atStart=>exact ⟨0,far,st,_,_,v3,Nat.zero_le _,by omega,rfl,HXI.out,HS3.out,HST2.out.1,fun x hx=>by have:=HST2.out.2 x hx;omega⟩
        case round=>
         clear q3 b3 r3 HS3 HST HST2 HY HYG HSR HSI HPP HP3
         obtain ⟨j,far',st',l',p',v',hj,hjg,rfl,HSI,HSR,HST⟩:=hrel
         have HST3:=Lib.hid HST.out
         have b4:=cell_later HSR.out.bel HBX.out.1
         have b5:=cell_later HSR.out.bel HBX.out.2
         have f4:=fun o=>cell_later (Below.of_al wr o) b4
         have f5:=fun o=>cell_later (Below.of_al wr o) b5
         by_cases hlt:j<L.length
         ·have hlt2:(j:Int)<(L.length:Int):=by omega
          obtain ⟨n1,n2,n3⟩:=HARC.out j hlt
          have hmem:=HMEM.out j hlt
          obtain ⟨x0,x1⟩:=flatI_get L j hlt
          rw [gI_in hlt] at x0 x1
          obtain ⟨aib,aio,e,y0⟩:=HCE.out (j*2) _ x0
          subst e
          obtain ⟨aib2,aio2,e,y1⟩:=HCE.out (j*2+1) _ x1
          cases e
          have z0:=cell_later HSR.out.bel y0
          have z1:=cell_later HSR.out.bel y1
          rw [←Nat.add_assoc] at z1
          clear y0 y1 x0 x1
          generalize L[j]=q at*
          obtain ⟨a1,a2⟩:=q
          obtain ⟨a,rfl⟩:∃a:Nat,a1=(a:Int):=⟨a1.toNat,by have:=n1.1;simp only at this;omega⟩
          simp only at n1 n2 n3 z0 z1
          have haO:a<O.length:=by have:=n1.2;omega
          have hll:(L.length:Int)≤1000000:=by have:=HLR.out;omega
          have hag:a<gone.length:=by rw [HO.out.len];exact haO
          have hstl:st'.length=O.length:=HST.out.1
          have g4:=cell_later HSR.out.bel (HGO.out a hag)
          have g5:=fun o=>cell_later (Below.of_al wr o) g4
          have ha0:(0:Int)≤(a:Int):=by omega
          have ha1:(a:Int)<(O.length:Int):=by omega
          have ha2:(a:Int)<(gone.length:Int):=by omega
          have hwd:IntKind.u64.wrap (d+a2)=d+a2:=by rw [IntKind.wrap_u64];have:=HDL.out;omega
          have HM:=Lib.hid hmem
          have HN:=Lib.hid (And.intro n1 (And.intro n2 n3))
          have hgd:gone.getD a true=gone[a]:=by rw [List.getD_eq_getElem?_getD,List.getElem?_eq_getElem hag];rfl
          have HGD:=Lib.hid hgd
          clear hgd hmem n1 n2 n3
          generalize gone[a]=ga at*
          cases ga with
          |true=>
           go_wp2
           go_roundg (L.length-(j+1))
           case measure=>omega
           case rel=>exact ⟨j+1,far',st',l',p',v',by omega,Nat.le_refl _,by have:=HLR.out;go_num,HSI.out,HSR.out.go (Below.of_al _ _),HST3.out.1,fun x hx=>by have:=HST3.out.2 x hx;omega⟩
          |false=>
           have HL:=Lib.hid (fun WX (hx:SrW W WX sb rb fb hb (.slice (some ⟨ab,0,none⟩) O.length O.length) v' far' st' l' p')=>sLeast_any sb rb a (d+a2) far' WX hx.s1 (by rw [HSI.out.lf];exact haO))
           cases hle:(leastF far' a (d+a2)).1 with
           |false=>
            have HLE:=Lib.hid hle
            rw [hle] at HL
            clear hle
            go_wp2_with (go_at_call 247;refine (HL.out _ (HSR.out.go (Below.of_al _ _))).mono ?_;rintro e w5 ⟨rfl,hs5,ho5⟩;(have HS5:=Lib.hid ((HSR.out.go (Below.of_al _ _)).stamp hs5 ho5));clear hs5 ho5)
            go_roundg (L.length-(j+1))
            case measure=>omega
            case rel=>
             have hfar:(leastF far' a (d+a2)).2=far':=by
              have:=HLE.out
              unfold leastF at this ⊢
              split<;>rename_i hq<;>simp only [hq] at this
              ·split
               ·rfl
               ·rename_i hn
                rw [if_neg hn] at this
                cases this
              ·cases this
             have hs5:=HS5.out
             rw [hfar] at hs5
             exact ⟨j+1,far',st',l',p',v',by omega,Nat.le_refl _,by have:=HLR.out;go_num,HSI.out,hs5,HST3.out.1,fun x hx=>by have:=HST3.out.2 x hx;omega⟩
           |true=>
            have hfar:(leastF far' a (d+a2)).2=far'.set a (some (d+a2)):=by
             have:=hle
             unfold leastF at this ⊢
             split<;>rename_i hq<;>simp only [hq] at this
             ·split
              ·rename_i hn
               rw [if_pos hn] at this
               cases this
              ·rfl
             ·rfl
            have hless:∀k,far'.getD a none=some k→d+a2<k:=by
             intro k hk
             have:=hle
             unfold leastF at this
             rw [hk] at this
             simp only at this
             by_cases hn:k≤d+a2
             ·rw [if_pos hn] at this
              cases this
             ·omega
            rw [hle,hfar] at HL
            clear hfar hle
            have HNX:=Lib.hid (HSI.out.relax HO.out HUN.out HXW.out xd0 HDL.out HM.out HGD.out hless)
            have HPT:=Lib.hid (fun WX (hx:SrW W WX sb rb fb hb (.slice (some ⟨ab,0,none⟩) O.length O.length) v' (far'.set a (some (d+a2))) st' l' p')=>hPut_any hb a (d+a2) _ _ _ _ WX hx.hp HSI.out.ok (by rw [HSI.out.lp];exact haO) (by have:=heap_len HSI.out.ok;have:=HSI.out.lp;have:=HLEN.out;omega))
            clear hless
            obtain ⟨ya,hya⟩:∃ya,st'[u]? =some ya:=⟨st'[u]'(by omega),List.getElem?_eq_getElem _⟩
            have HYA:=Lib.hid (HST3.out.2 ya (List.mem_of_getElem? hya))
            have HYG:=Lib.hid hya
            clear hya
            obtain ⟨yb,hyb⟩:∃yb,st'[a]? =some yb:=⟨st'[a]'(by omega),List.getElem?_eq_getElem _⟩
            have HYB:=Lib.hid hyb
            clear hyb
            have HNB:=Lib.hid (show ¬SX sb rb wr.heap.size∧¬HX hb v' (.slice (some ⟨ab,0,none⟩) O.length O.length) wr.heap.size from ⟨by rintro (e|e)<;>(have:=HSR.out.s1.lt;omega),fun h=>Nat.lt_irrefl _ (hx_lt HSR.out.hp _ h)⟩)
            go_wp2_with (first
             |(go_at_call 247;refine (HL.out _ (HSR.out.go (Below.of_al _ _))).mono ?_;rintro e w5 ⟨rfl,hs5,ho5⟩;(have HS5:=Lib.hid ((HSR.out.go (Below.of_al _ _)).stamp hs5 ho5));(have b5c:=cell_later HS5.out.bel HBX.out.1);(have x5:w5.cell? ⟨wr.heap.size,0,none⟩=some (.int .i64 (a:Int)):=ho5.cell (by go_simp) HNB.out.1);(have x5b:w5.cell? ⟨wr.heap.size,1,none⟩=some (.int .u64 a2):=ho5.cell (by go_simp) HNB.out.1);clear hs5 ho5)
             |(go_at_call 163;refine (HPT.out _ HS5.out).mono ?_;unfold PutPost;rintro e w6 ⟨rfl,v6,hh6,ho6,hv6⟩;(have HS6:=Lib.hid (HS5.out.heap hh6 ho6 hv6));(have x6:=ho6.cell x5 HNB.out.2);(have q6:=(HS6.out.sp.cellAt u (by have:=HST3.out.1;omega)).trans (show (st'.map encI)[u]? =some (Value.int .i64 ya) by rw [List.getElem?_map,HYG.out];rfl));(have z6:=HS6.out.sp.frozenAt a);(have s6:=(HS6.out.sp.cellAt a (by have:=HST3.out.1;omega)).trans (show (st'.map encI)[a]? =some (Value.int .i64 yb) by rw [List.getElem?_map,HYB.out];rfl));clear hh6 ho6 hv6 x5 x5b))
            have hyv0:0≤ya:=HYA.out.1
            have hyv1:ya≤2000000000000:=by have:=HYA.out.2;have:=HLR.out;omega
            go_region
            go_wp2
            go_roundg (L.length-(j+1))
            case measure=>omega
            case rel=>exact ⟨j+1,_,st'.set a (ya+1),_,_,v6,by omega,Nat.le_refl _,by have:=HLR.out;go_num,HNX.out,(HS6.out.go (Below.of_dr _ 1)).step a (ya+1),by rw [List.length_set];exact HST3.out.1,fun x hx=>by
             have hx2:=List.mem_or_eq_of_mem_set hx
             have h3:=HYA.out
             rcases hx2 with hx2|rfl
             ·have:=HST3.out.2 x hx2
              omega
             ·omega⟩
         ·obtain rfl:j=L.length:=by omega
          go_wp2
          go_roundg (settles-(i+1))
          case measure=>omega
          case rel=>exact ⟨i+1,far',st',l',p',v',by omega,Nat.le_refl _,by go_num,HSI.out,HSR.out,HST3.out.1,fun x hx=>by have:=HST3.out.2 x hx;have:=HLR.out;omega⟩
   ·obtain rfl:i=settles:=by omega
    go_wp2
    try simp only [Exit.noGoto]
    refine bodyPost_ret (v:=.tuple #[.int .u64 0,.bool false]) (by simp [results,Tryz.results231,go_sem];try rfl) rfl ?_
    exact ⟨0,false,rfl,by simp,HB.out.st HSR.out.bel⟩
theorem search_any (O:List (List (Int×Int))) (gone:List Bool) (vo vg:Value) (s t settles:Nat) (below hops B:Int) (w:World) (hn:NetW w vo vg O gone) (hs:s<gone.length) (ht:t<gone.length)
  (hO:NetOK O gone B) (hB:0≤B∧B≤1152921504606846976) (hbl:0≤below∧below≤1152921504606846976) (hse:settles≤1000000) (hlen:O.length≤60000) (hrow:∀l∈O,l.length≤1000000):
  Calls Tryz.prog 231 #[.agg #[vo,vg],.int .i64 s,.int .i64 t,.int .u64 below,.int .i64 hops,.int .i64 settles] w (SeaPost O gone s t below w):=by
 cases h1:gone[s] with
 |true=>exact search_gone O gone vo vg s t below hops settles w hn hs ht (.inl h1)
 |false=>
  cases h2:gone[t] with
  |true=>exact search_gone O gone vo vg s t below hops settles w hn hs ht (.inr h2)
  |false=>exact search_run O gone vo vg s t settles below hops B w hn hs ht h1 h2 hO hB hbl hse hlen hrow
end Go.Proofs.YteaaapdjplbljaaGreat
