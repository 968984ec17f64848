/- Parts; no condition. -/
import Derived.Test.YteaaapdjplbljaaGreatVc06
import Derived.Maps.Own
import Derived.Maps.OwnSet
import Derived.Maps.OwnOps
import Derived.Maps.RangeWalk
set_option linter.unusedVariables false
set_option linter.unusedSimpArgs false
set_option linter.unnecessarySimpa false
set_option maxRecDepth 100000
set_option maxHeartbeats 8000000
namespace Go.Proofs.YteaaapdjplbljaaGreat
section
open Go Go.Proofs Go.RowKit Go.Shelf Hp Ch
def Kf (O:List (List (Int×Int))) (gone:List Bool) (s t:Nat) (below:Int) (w:World) (e:Ending) (w':World):Prop:=
 ∃d b,e=.returned (.tuple #[.int .u64 d,.bool b])/\(b=true->Way0 (NR O gone) Any s t d/\d<below)/\Below w.heap.size w w'
theorem Op (O:List (List (Int×Int))) (gone:List Bool) (vo vg:Value) (s t:Nat) (below hops settles:Int) (w:World) (hn:NetW w vo vg O gone) (hs:s<gone.length) (ht:t<gone.length) (hg:gone[s]=true\/gone[t]=true):
  Calls Tryz.prog 231 #[.agg #[vo,vg],.int .i64 s,.int .i64 t,.int .u64 below,.int .i64 hops,.int .i64 settles] w (Kf O gone s t below w):=by
 obtain ⟨ao,co,go,cg,rows,rfl,rfl,h3,h4,h5,h6⟩:=hn;obtain ⟨gb,gof,e1,c1⟩:=h5.at (i:=s) hs;subst e1;obtain ⟨gb',gof',e2,c2⟩:=h5.at (i:=t) ht
 cases e2
 have hs0:(0:Int)<=(s:Int):=by omega
 have hs1:(s:Int)<(gone.length:Int):=by omega
 have ht0:(0:Int)<=(t:Int):=by omega
 have ht1:(t:Int)<(gone.length:Int):=by omega
 have f1:=fun o=>Bi6 (Below.of_al w o) c1;have f2:=fun o=>Bi6 (Below.of_al w o) c2;clear h3 h4 h5 h6;unfold Kf;generalize gone[s]=g1 at*;generalize gone[t]=g2 at*
 cases g1 with
 |true=>
  go_enter Tryz.func231,Tryz.ntmps231
  repeat go_step
  refine wp_scope_straight ?_
  go_wp2
  try simp only [Exit.noGoto]
  refine bodyPost_ret (v:=.tuple #[.int .u64 0,.bool false]) (by simp [results,Tryz.results231,go_sem];try rfl) rfl ?_;exact ⟨0,false,rfl,by simp,Below.of_al _ _⟩
 |false=>
  obtain rfl:g2=true:=by simpa using hg
  go_enter Tryz.func231,Tryz.ntmps231
  repeat go_step
  refine wp_scope_straight ?_
  go_wp2
  try simp only [Exit.noGoto]
  refine bodyPost_ret (v:=.tuple #[.int .u64 0,.bool false]) (by simp [results,Tryz.results231,go_sem];try rfl) rfl ?_;exact ⟨0,false,rfl,by simp,Below.of_al _ _⟩
theorem Ae9 {W w1 w2:World} {a:Addr} {v:Value} (hb:Below w1.heap.size w1 w2) (h:w1.cell? a=some v/\Below W.heap.size W w1):w2.cell? a=some v/\Below W.heap.size W w2:=⟨Bi6 hb h.1,h.2.st hb⟩
theorem Hm (n:Nat) (hn:n<=60000) (W:World):(Instr.makeSlice 25 (.int .i64 (n:Int)) (.int .i64 (n:Int))).run Tryz.prog W=.ok (.slice (some ⟨W.heap.size,0,none⟩) n n) (W.alloc (.cells (madeCells #[.int .i64 0] n) 3)):=by
 obtain ⟨i,hi,hz,hsz,hby⟩:=info_parts Dc.1;have hr:=run_make (P:=Tryz.prog) W 25 3 i (.int .i64 0) Tryz.underlying25 hi hz .i64 .i64 n n (by omega) (Int.le_refl _) (by rw [hby];omega) (by omega);simp only [Bj9,hsz,Nat.mul_one] at hr;exact hr
theorem Aq9 {W Z:World} {sb rb fb hb ab n:Nat} (hst:StW Z sb rb (List.replicate n none)) (hhp:HeapW Z hb (.slice none 0 0) (.slice (some ⟨ab,0,none⟩) n n) [] (List.replicate n (-1)))
  (hsp:Z.ownsRow 0 3 1 (.slice (some ⟨fb,0,none⟩) n n) n (List.replicate n (.int .i64 0))) (hb':Below W.heap.size W Z) (g1:W.heap.size<=sb/\W.heap.size<=rb/\W.heap.size<=fb/\W.heap.size<=hb/\W.heap.size<=ab)
  (g2:hb≠sb/\hb≠rb/\hb≠fb/\ab≠sb/\ab≠rb/\ab≠fb/\fb≠sb/\fb≠rb):SrW W Z sb rb fb hb (.slice (some ⟨ab,0,none⟩) n n) (.slice none 0 0) (List.replicate n none) (List.replicate n 0) [] (List.replicate n (-1)):=by
 have hx:∀k,HX hb (.slice none 0 0) (.slice (some ⟨ab,0,none⟩) n n) k->k=hb\/k=ab:=by
  rintro k (hk|hk|hk)
  ·exact .inl hk
  ·simp [Value.ownBlock] at hk
  ·simp [Value.ownBlock] at hk
   exact .inr hk.symm
 refine ⟨hst,hhp,?_,hb',⟨g1.1,g1.2.1,g1.2.2.1,?_⟩,?_,g2.2.2.2.2.2.2⟩
 ·rw [Bl6,List.map_replicate]
  exact hsp
 ·intro k hk
  rcases hx k hk with rfl|rfl
  ·exact g1.2.2.2.1
  ·exact g1.2.2.2.2
 ·intro k hk
  obtain ⟨a1,a2,a3,a4,a5,a6,_,_⟩:=g2
  rcases hx k hk with rfl|rfl
  ·exact ⟨a1,a2,a3⟩
  ·exact ⟨a4,a5,a6⟩
theorem Vc (n:Nat) (hn:n<=60000) (W:World):(W.alloc (.cells (madeCells #[.int .i64 0] n) 3)).ownsRow 0 3 1 (.slice (some ⟨W.heap.size,0,none⟩) n n) n (List.replicate n (.int .i64 0)):=by
 have:=World.ownsRow_lit (base:=0) (e:=3) (size:=1) W (madeCells #[.int .i64 0] n) n (Bi8 _) (by unfold maxLen;omega) (by rw [size_madeCells];simp);rw [toList_madeCells_one] at this;exact this
theorem Bh7 {W:World} {b:Nat} {v va:Value} {l:List IK} {p:List Int} (h:HeapW W b v va l p):∀k,HX b v va k->k<W.heap.size:=by
 rintro k (rfl|hk|hk)
 ·exact h.pb.lt
 ·exact (h.ol.lt k hk).2
 ·exact (h.oa.lt k hk).2
theorem Zl (O:List (List (Int×Int))) (gone:List Bool) (vo vg:Value) (s t settles:Nat) (below hops B:Int) (w:World) (hn:NetW w vo vg O gone) (hs:s<gone.length) (ht:t<gone.length) (hg1:gone[s]=false) (hg2:gone[t]=false)
  (hO:NetOK O gone B) (hB:0<=B/\B<=1152921504606846976) (hbl:0<=below/\below<=1152921504606846976) (hse:settles<=1000000) (hlen:O.length<=60000) (hrow:∀l∈O,l.length<=1000000):
  Calls Tryz.prog 231 #[.agg #[vo,vg],.int .i64 s,.int .i64 t,.int .u64 below,.int .i64 hops,.int .i64 settles] w (Kf O gone s t below w):=by
 have HN:=Bi5 hn;obtain ⟨ao,co,go,cg,rows,rfl,rfl,h3,h4,h5,h6⟩:=hn;obtain ⟨gb,gof,e1,c1⟩:=h5.at (i:=s) hs;subst e1;obtain ⟨gb',gof',e2,c2⟩:=h5.at (i:=t) ht
 cases e2
 have hs0:(0:Int)<=(s:Int):=by omega
 have hs1:(s:Int)<(gone.length:Int):=by omega
 have ht0:(0:Int)<=(t:Int):=by omega
 have ht1:(t:Int)<(gone.length:Int):=by omega
 rw [hg1] at c1;rw [hg2] at c2;have f1:=fun o=>Bi6 (Below.of_al w o) c1;have f2:=fun o=>Bi6 (Below.of_al w o) c2;clear h3 h4 h5 h6 hg1 hg2;unfold Kf
 go_enter Tryz.func231,Tryz.ntmps231
 repeat go_step
 refine wp_scope_straight ?_
 go_upto_region 3 with (fail)
 obtain ⟨W,hW⟩:∃W,W=w.alloc (Obj.cells #[.slice ao O.length co,.slice (some ⟨gb,gof,none⟩) gone.length cg] 179):=⟨_,rfl⟩;have HB:=Bi5 (show Below w.heap.size w W by rw [hW];exact Below.of_al _ _);have HNW:=Bi5 (HN.out.go HB.out);have b0:W.cell? ⟨w.heap.size,0,none⟩=some (.slice ao O.length co):=by rw [hW];go_simp
 have b1:W.cell? ⟨w.heap.size,1,none⟩=some (.slice (some ⟨gb,gof,none⟩) gone.length cg):=by rw [hW];go_simp
 have HBX:=Bi5 (⟨b0,b1⟩:_/\_);have HK:w.heap.size<W.heap.size:=Bj5 _ _ b0;have HKH:=Bi5 HK;rw [<-hW];clear hW f1 f2 c1 c2 HN;have hmk:=Hm O.length hlen;obtain ⟨ob,oo,hao,hrow0⟩:∃ob oo,ao=some ⟨ob,oo,none⟩/\(∀u (hu:u<O.length),∃ai ci,W.cell? ⟨ob,oo+u,none⟩=some (.slice ai O[u].length ci)/\Cel W ai (Aq O[u])):=by
  obtain ⟨ao',co',go',cg',rows,e1,e2,h3,h4,h5,h6⟩:=HNW.out
  cases e1
  have h0:0<O.length:=by rw [<-hO.len];omega
  obtain ⟨ai,ci,k1,_⟩:=h6 0 h0;obtain ⟨ob,oo,rfl,_⟩:=h3 0 _ k1;refine ⟨ob,oo,rfl,?_⟩;intro u hu;obtain ⟨ai,ci,k1,k2⟩:=h6 u hu;obtain ⟨b',o',e,k3⟩:=h3 u _ k1
  cases e
  exact ⟨ai,ci,k3,k2⟩
 subst hao;have HROW:=Bi5 hrow0;clear hrow0;have HGO:=Bi5 (show ∀k (hk:k<gone.length),W.cell? ⟨gb,gof+k,none⟩=some (.bool gone[k]) by
  obtain ⟨ao',co',go',cg',rows,e1,e2,h3,h4,h5,h6⟩:=HNW.out
  cases e2
  intro k hk;obtain ⟨b',o',e,k3⟩:=h5.at (i:=k) hk
  cases e
  exact k3)
 go_region_held3 (fun w'=>w'.cell? ⟨w.heap.size,0,none⟩=some (.slice (some ⟨ob,oo,none⟩) O.length co)/\Below W.heap.size W w') (first
   |assumption
   |exact ⟨b0,Below.of_dr W 1⟩
   |exact Ae9 (by assumption) (by assumption)
   |exact Ae9 (Below.of_al _ _) (by assumption)) (first
   |(go_at_call 181;refine (Pz O.length (by omega) _).mono ?_;rintro e wS ⟨sb,rb,rfl,hst,hs1',hs2',hbS⟩)
   |(go_at_call 162;refine (Mj O.length (by omega) _).mono ?_;rintro e wH ⟨hb,ab,rfl,hhp,hh1',hh2',hbH⟩))
 all_goals
  rename_i hHeld
  first
   |(
    have hz1:W.heap.size<=wS.heap.size:=hbS.size;have hzM:(wS.alloc (Obj.cells (madeCells #[Value.int IntKind.i64 0] O.length) 3)).heap.size=wS.heap.size+1:=by simp
    have hs3:=hst.lt;have hd:W.drew.heap.size=W.heap.size:=rfl;have HSR0:=Bi5 (Aq9 (W:=W) ((hst.go (Below.of_al _ _)).go hbH) hhp (Af (Vc O.length hlen wS) hbH) hHeld.2 ⟨by omega,by omega,by omega,by omega,by omega⟩ ⟨by omega,by omega,by omega,by omega,by omega,by omega,by omega,by omega⟩);clear hst hhp hs1' hs2' hh1' hh2' hbS hbH hHeld hz1 hzM hs3 hd;generalize wS.heap.size=fb at HSR0 ⊢;generalize wH=Z at HSR0 ⊢)
   |(
    have hz1:W.heap.size<=wS.heap.size:=hbS.size;have hz2:wS.heap.size<=wH.heap.size:=hbH.size;have hs3:=hst.lt;have hh3:=hhp.pb.lt;have hh4:=(hhp.oa.lt ab rfl).2;have hd:W.drew.heap.size=W.heap.size:=rfl;have HSR0:=Bi5 (Aq9 (W:=W) ((hst.go hbH).go (Below.of_al _ _)) (hhp.go (Below.of_al _ _)) (Vc O.length hlen wH) hHeld.2 ⟨by omega,by omega,by omega,by omega,by omega⟩ ⟨by omega,by omega,by omega,by omega,by omega,by omega,by omega,by omega⟩);clear hst hhp hs1' hs2' hh1' hh2' hbS hbH hHeld hz1 hz2 hs3 hh3 hh4 hd;generalize wH.alloc (Obj.cells (madeCells #[Value.int IntKind.i64 0] O.length) 3)=Z at HSR0 ⊢;generalize wH.heap.size=fb at HSR0 ⊢)
   |(
    have hzM:(W.alloc (Obj.cells (madeCells #[Value.int IntKind.i64 0] O.length) 3)).heap.size=W.heap.size+1:=by simp
    have hd:(W.alloc (Obj.cells (madeCells #[Value.int IntKind.i64 0] O.length) 3)).drew.heap.size=(W.alloc (Obj.cells (madeCells #[Value.int IntKind.i64 0] O.length) 3)).heap.size:=rfl;have hz1:=hbS.size;have hs3:=hst.lt;have HSR0:=Bi5 (Aq9 (W:=W) (hst.go hbH) hhp (Af (Af (Ly (Vc O.length hlen W) 1) hbS) hbH) hHeld.2 ⟨by omega,by omega,by omega,by omega,by omega⟩ ⟨by omega,by omega,by omega,by omega,by omega,by omega,by omega,by omega⟩);clear hst hhp hs1' hs2' hh1' hh2' hbS hbH hHeld hz1 hzM hs3 hd;generalize W.heap.size=fb at HSR0 ⊢;generalize wH=Z at HSR0 ⊢)
 all_goals
  have hsO:s<O.length:=by rw [<-hO.len];exact hs
  have HO:=Bi5 hO;have HLEN:=Bi5 hlen;have HSB:=Bi5 (show SInv O gone B below (s:Int) ((List.replicate O.length none).set s (some 0)) (Bf [] (List.replicate O.length (-1)) s 0).2.1 (Bf [] (List.replicate O.length (-1)) s 0).2.2 by
   have:=SInv.begin (O:=O) (gone:=gone) (B:=B) (M:=below) (s:=(s:Int)) ⟨by omega,by omega⟩ (by omega)
   simpa using this)
  have hse1:(settles:Int)<=1000000:=by omega
  have hse2:(0:Int)<=(settles:Int):=by omega
  have hmax:max (settles:Int) 0=(settles:Int):=Int.max_eq_left hse2;clear b0 b1 HK hmk hO hlen
  go_wp2_with (first
   |(go_at_call 266;refine (Wp sb rb s 0 _ _ HSR0.out.s1 (by rw [Bl6];exact hsO)).mono ?_;rintro e w1 ⟨rfl,hs1,ho1⟩;(have HSR1:=Bi5 (HSR0.out.stamp hs1 ho1);clear hs1 ho1))
   |(go_at_call 163;refine (Hb hb s 0 _ _ _ _ _ HSR1.out.hp (Gb O.length) (by rw [Bl6];exact hsO) (by simp)).mono ?_;rintro e w2 ⟨rfl,v2,hh2,ho2,hv2⟩;(have HSR2:=Bi5 (HSR1.out.heap hh2 ho2 hv2);clear hh2 ho2 hv2)))
  go_step3
  go_wp2
  go_loopg [54] settles (fun gg v54 wr=>∃(i:Nat) (far:List (Option Int)) (st:List Int) (l:List IK) (p:List Int) (v:Value),i<=settles/\settles-i<=gg/\v54=.int .i64 i/\Aside (SInv O gone B below (s:Int) far l p)/\Aside (SrW W wr sb rb fb hb (.slice (some ⟨ab,0,none⟩) O.length O.length) v far st l p)/\Aside (st.length=O.length/\∀x∈st,0<=x/\x<=i*1000001))
  case atStart=>exact ⟨0,_,_,_,_,v2,Bi8 _,by omega,rfl,HSB.out,HSR2.out,by simp,by simp⟩
  case round=>
   clear HSB HSR2 HSR1 HSR0;obtain ⟨i,far,st,l,p,v,hi,hgg,rfl,HSI,HSR,HST⟩:=hrel
   by_cases hlt:i<settles
   ·have hlt2:(i:Int)<(settles:Int):=by omega
    have HPP:=Bi5 (Mi hb v _ l p wr HSR.out.hp HSI.out.ok (by have:=Mh HSI.out.ok;have:=HSI.out.lp;have:=HLEN.out;omega));unfold Kg at HPP
    cases l with
    |nil=>
     go_wp2_with (go_at_call 165;refine HPP.out.mono ?_;unfold Fa;rintro e w3 ⟨rfl,h3⟩;(have hb3:Below wr.heap.size wr w3:=h3.elim (fun h=>h.2) (fun h=>absurd rfl h.1));clear h3)
     try simp only [Exit.noGoto]
     refine bodyPost_ret (v:=.tuple #[.int .u64 0,.bool false]) (by simp [results,Tryz.results231,go_sem];try rfl) rfl ?_;exact ⟨0,false,rfl,by simp,HB.out.st (HSR.out.bel.st hb3)⟩
    |cons x r=>
     obtain ⟨xv,d⟩:=x;obtain ⟨xn,xf,xw,xd0,xdM,xi⟩:=HSI.out.pop rfl;simp only at xn xf xw xd0 xdM xi;obtain ⟨u,rfl⟩:∃u:Nat,xv=(u:Int):=⟨xv.toNat,by have:=xn.1;omega⟩;have huO:u<O.length:=by have:=xn.2;omega
     have HXI:=Bi5 xi;have HXW:=Bi5 xw;have HXF:=Bi5 xf;clear xi xw xf xn;have hu0:(0:Int)<=(u:Int):=by omega
     have hu1:(u:Int)<(O.length:Int):=by omega
     have HST2:=Bi5 HST.out;have hstl:st.length=O.length:=HST.out.1;have hsu:∃y,st[u]? =some y:=⟨st[u]'(by omega),Bj0 _⟩;obtain ⟨y,hy⟩:=hsu;have HY:=Bi5 (HST.out.2 y (Bl3 hy));have HYG:=Bi5 hy;clear hy hstl;have hP3:=fun (e:Ending) (w3:World) (h:e=Ending.returned (Fa (((u:Int),d)::r))/\(((u:Int),d)::r=[]/\Below wr.heap.size wr w3\/((u:Int),d)::r≠[]/\∃v',HeapW w3 hb v' (Value.slice (some ⟨ab,0,none⟩) O.length O.length) (Az (((u:Int),d)::r) p (gI (((u:Int),d)::r) 0).1.toNat 0).1 (Az (((u:Int),d)::r) p (gI (((u:Int),d)::r) 0).1.toNat 0).2/\OffX (HX hb v (Value.slice (some ⟨ab,0,none⟩) O.length O.length)) wr w3/\v'.ownBlock=v.ownBlock))=>
      (show ∃v3,SrW W w3 sb rb fb hb (.slice (some ⟨ab,0,none⟩) O.length O.length) v3 far st (Az (((u:Int),d)::r) p (u:Int).toNat 0).1 (Az (((u:Int),d)::r) p (u:Int).toNat 0).2 by
       rcases h.2 with ⟨h1,_⟩|⟨_,v3,h2,h3,h4⟩
       ·cases h1
       ·exact ⟨v3,HSR.out.heap h2 h3 (.inl h4)⟩)
     have HP3:=Bi5 hP3;clear hP3
     by_cases hdb:below<=d
     ·have hdb2:decide (d>=below)=true:=decide_eq_true hdb
      go_wp2_with (go_at_call 165;refine HPP.out.mono ?_;rintro e w3 h3;(obtain ⟨v3,hs3⟩:=HP3.out e w3 h3);unfold Fa at h3;obtain ⟨rfl,-⟩:=h3)
      try simp only [Exit.noGoto]
      refine bodyPost_ret (v:=.tuple #[.int .u64 0,.bool false]) (by simp [results,Tryz.results231,go_sem];try rfl) rfl ?_;exact ⟨0,false,rfl,by simp,HB.out.st hs3.bel⟩
     ·have hdb1:d<below:=by omega
      have hdb2:decide (d>=below)=false:=decide_eq_false hdb
      by_cases hut:u=t
      ·have hut2:((u:Int)==(t:Int))=true:=by simp [hut]
       have HUT:=Bi5 hut;have HD:=Bi5 hdb1;clear hut hdb
       go_wp2_with (go_at_call 165;refine HPP.out.mono ?_;rintro e w3 h3;(obtain ⟨v3,hs3⟩:=HP3.out e w3 h3);unfold Fa at h3;obtain ⟨rfl,-⟩:=h3)
       try simp only [Exit.noGoto]
       refine bodyPost_ret (v:=.tuple #[.int .u64 d,.bool true]) (by simp [results,Tryz.results231,go_sem];try rfl) rfl ?_;exact ⟨d,true,rfl,fun _=>⟨by rw [<-HUT.out];exact HXW.out,HD.out⟩,HB.out.st hs3.bel⟩
      ·have hut2:((u:Int)==(t:Int))=false:=by rw [beq_eq_false_iff_ne];omega
       clear hut hdb
       by_cases hhop:hops<=y
       ·have hhop2:decide (y>=hops)=true:=decide_eq_true hhop
        go_wp2_with (go_at_call 165;refine HPP.out.mono ?_;rintro e w3 h3;(obtain ⟨v3,hs3⟩:=HP3.out e w3 h3);unfold Fa at h3;obtain ⟨rfl,-⟩:=h3;(have HS3:=Bi5 hs3);(have q3:=(hs3.sp.cellAt u (by have:=HST2.out.1;omega)).trans (show (st.map Aj)[u]? =some (Value.int .i64 y) by rw [Bk4,HYG.out];rfl));clear hs3)
        go_roundg (settles-(i+1))
        case measure=>omega
        case rel=>exact ⟨i+1,far,st,_,_,v3,by omega,Bi7 _,by go_num,HXI.out,HS3.out,HST2.out.1,fun x hx=>by have:=HST2.out.2 x hx;omega⟩
       ·have hhop2:decide (y>=hops)=false:=decide_eq_false (by omega)
        have hyb:=HY.out;obtain ⟨ai,ci,hc1,hc2⟩:=HROW.out u huO;have HLR:=Bi5 (hrow O[u] (Bj7 huO));have HARC:=Bi5 (fun j (hj:j<O[u].length)=>HO.out.arcs (u:Int) (O[u][j]) ⟨by omega,by omega⟩ (by unfold Cl;simp [huO]));have HMEM:=Bi5 (fun j (hj:j<O[u].length)=>(show O[u][j]∈Cl O (u:Int) by unfold Cl;simp [huO]));have HCE:=Bi5 hc2;have HR1:=Bi5 hc1;have HUN:=Bi5 (show Aa O.length (u:Int) from ⟨by omega,by omega⟩);have HDL:=Bi5 hdb1;clear hc1 hc2 hhop;generalize O[u]=L at*
        go_wp2_with (go_at_call 165;refine HPP.out.mono ?_;rintro e w3 h3;(obtain ⟨v3,hs3⟩:=HP3.out e w3 h3);unfold Fa at h3;obtain ⟨rfl,-⟩:=h3;(have HS3:=Bi5 hs3);(have q3:=(hs3.sp.cellAt u (by have:=HST2.out.1;omega)).trans (show (st.map Aj)[u]? =some (Value.int .i64 y) by rw [Bk4,HYG.out];rfl));(have b3:=Bi6 hs3.bel HBX.out.1);(have r3:=Bi6 hs3.bel HR1.out);clear hs3)
        go_loopg [88] L.length (fun g2 v88 wr2=>∃(j:Nat) (far':List (Option Int)) (st':List Int) (l':List IK) (p':List Int) (v':Value),j<=L.length/\L.length-j<=g2/\v88=.int .i64 j/\Aside (SInv O gone B below (s:Int) far' l' p')/\Aside (SrW W wr2 sb rb fb hb (.slice (some ⟨ab,0,none⟩) O.length O.length) v' far' st' l' p')/\Aside (st'.length=O.length/\∀x∈st',0<=x/\x<=i*1000001+j))
        case atStart=>exact ⟨0,far,st,_,_,v3,Bi8 _,by omega,rfl,HXI.out,HS3.out,HST2.out.1,fun x hx=>by have:=HST2.out.2 x hx;omega⟩
        case round=>
         clear q3 b3 r3 HS3 HST HST2 HY HYG HSR HSI HPP HP3;obtain ⟨j,far',st',l',p',v',hj,hjg,rfl,HSI,HSR,HST⟩:=hrel;have HST3:=Bi5 HST.out;have b4:=Bi6 HSR.out.bel HBX.out.1;have b5:=Bi6 HSR.out.bel HBX.out.2;have f4:=fun o=>Bi6 (Below.of_al wr o) b4;have f5:=fun o=>Bi6 (Below.of_al wr o) b5
         by_cases hlt:j<L.length
         ·have hlt2:(j:Int)<(L.length:Int):=by omega
          obtain ⟨n1,n2,n3⟩:=HARC.out j hlt;have hmem:=HMEM.out j hlt;obtain ⟨x0,x1⟩:=Ay L j hlt;rw [Jg hlt] at x0 x1;obtain ⟨aib,aio,e,y0⟩:=HCE.out (j*2) _ x0;subst e;obtain ⟨aib2,aio2,e,y1⟩:=HCE.out (j*2+1) _ x1
          cases e
          have z0:=Bi6 HSR.out.bel y0;have z1:=Bi6 HSR.out.bel y1;rw [<-Nat.add_assoc] at z1;clear y0 y1 x0 x1;generalize L[j]=q at*;obtain ⟨a1,a2⟩:=q;obtain ⟨a,rfl⟩:∃a:Nat,a1=(a:Int):=⟨a1.toNat,by have:=n1.1;simp only at this;omega⟩;simp only at n1 n2 n3 z0 z1;have haO:a<O.length:=by have:=n1.2;omega
          have hll:(L.length:Int)<=1000000:=by have:=HLR.out;omega
          have hag:a<gone.length:=by rw [HO.out.len];exact haO
          have hstl:st'.length=O.length:=HST.out.1;have g4:=Bi6 HSR.out.bel (HGO.out a hag);have g5:=fun o=>Bi6 (Below.of_al wr o) g4;have ha0:(0:Int)<=(a:Int):=by omega
          have ha1:(a:Int)<(O.length:Int):=by omega
          have ha2:(a:Int)<(gone.length:Int):=by omega
          have hwd:IntKind.u64.wrap (d+a2)=d+a2:=by rw [Bn7];have:=HDL.out;omega
          have HM:=Bi5 hmem;have HN:=Bi5 (And.intro n1 (And.intro n2 n3));have hgd:gone.getD a true=gone[a]:=by rw [Bj1,Bj0 hag];rfl
          have HGD:=Bi5 hgd;clear hgd hmem n1 n2 n3;generalize gone[a]=ga at*
          cases ga with
          |true=>
           go_wp2
           go_roundg (L.length-(j+1))
           case measure=>omega
           case rel=>exact ⟨j+1,far',st',l',p',v',by omega,Bi7 _,by have:=HLR.out;go_num,HSI.out,HSR.out.go (Below.of_al _ _),HST3.out.1,fun x hx=>by have:=HST3.out.2 x hx;omega⟩
          |false=>
           have HL:=Bi5 (fun WX (hx:SrW W WX sb rb fb hb (.slice (some ⟨ab,0,none⟩) O.length O.length) v' far' st' l' p')=>La sb rb a (d+a2) far' WX hx.s1 (by rw [HSI.out.lf];exact haO))
           cases hle:(As far' a (d+a2)).1 with
           |false=>
            have HLE:=Bi5 hle;rw [hle] at HL;clear hle
            go_wp2_with (go_at_call 247;refine (HL.out _ (HSR.out.go (Below.of_al _ _))).mono ?_;rintro e w5 ⟨rfl,hs5,ho5⟩;(have HS5:=Bi5 ((HSR.out.go (Below.of_al _ _)).stamp hs5 ho5));clear hs5 ho5)
            go_roundg (L.length-(j+1))
            case measure=>omega
            case rel=>
             have hfar:(As far' a (d+a2)).2=far':=by
              have:=HLE.out;unfold As at this ⊢
              split<;>rename_i hq<;>simp only [hq] at this
              ·split
               ·rfl
               ·rename_i hn
                rw [if_neg hn] at this
                cases this
              ·cases this
             have hs5:=HS5.out;rw [hfar] at hs5;exact ⟨j+1,far',st',l',p',v',by omega,Bi7 _,by have:=HLR.out;go_num,HSI.out,hs5,HST3.out.1,fun x hx=>by have:=HST3.out.2 x hx;omega⟩
           |true=>
            have hfar:(As far' a (d+a2)).2=far'.set a (some (d+a2)):=by
             have:=hle;unfold As at this ⊢
             split<;>rename_i hq<;>simp only [hq] at this
             ·split
              ·rename_i hn
               rw [if_pos hn] at this
               cases this
              ·rfl
             ·rfl
            have hless:∀k,far'.getD a none=some k->d+a2<k:=by
             intro k hk;have:=hle;unfold As at this;rw [hk] at this;simp only at this
             by_cases hn:k<=d+a2
             ·rw [if_pos hn] at this
              cases this
             ·omega
            rw [hle,hfar] at HL;clear hfar hle;have HNX:=Bi5 (HSI.out.relax HO.out HUN.out HXW.out xd0 HDL.out HM.out HGD.out hless);have HPT:=Bi5 (fun WX (hx:SrW W WX sb rb fb hb (.slice (some ⟨ab,0,none⟩) O.length O.length) v' (far'.set a (some (d+a2))) st' l' p')=>Hb hb a (d+a2) _ _ _ _ WX hx.hp HSI.out.ok (by rw [HSI.out.lp];exact haO) (by have:=Mh HSI.out.ok;have:=HSI.out.lp;have:=HLEN.out;omega));clear hless;obtain ⟨ya,hya⟩:∃ya,st'[u]? =some ya:=⟨st'[u]'(by omega),Bj0 _⟩;have HYA:=Bi5 (HST3.out.2 ya (Bl3 hya));have HYG:=Bi5 hya;clear hya;obtain ⟨yb,hyb⟩:∃yb,st'[a]? =some yb:=⟨st'[a]'(by omega),Bj0 _⟩;have HYB:=Bi5 hyb;clear hyb;have HNB:=Bi5 (show ¬SX sb rb wr.heap.size/\¬HX hb v' (.slice (some ⟨ab,0,none⟩) O.length O.length) wr.heap.size from ⟨by rintro (e|e)<;>(have:=HSR.out.s1.lt;omega),fun h=>Nat.lt_irrefl _ (Bh7 HSR.out.hp _ h)⟩)
            go_wp2_with (first
             |(go_at_call 247;refine (HL.out _ (HSR.out.go (Below.of_al _ _))).mono ?_;rintro e w5 ⟨rfl,hs5,ho5⟩;(have HS5:=Bi5 ((HSR.out.go (Below.of_al _ _)).stamp hs5 ho5));(have b5c:=Bi6 HS5.out.bel HBX.out.1);(have x5:w5.cell? ⟨wr.heap.size,0,none⟩=some (.int .i64 (a:Int)):=ho5.cell (by go_simp) HNB.out.1);(have x5b:w5.cell? ⟨wr.heap.size,1,none⟩=some (.int .u64 a2):=ho5.cell (by go_simp) HNB.out.1);clear hs5 ho5)
             |(go_at_call 163;refine (HPT.out _ HS5.out).mono ?_;unfold Fo;rintro e w6 ⟨rfl,v6,hh6,ho6,hv6⟩;(have HS6:=Bi5 (HS5.out.heap hh6 ho6 hv6));(have x6:=ho6.cell x5 HNB.out.2);(have q6:=(HS6.out.sp.cellAt u (by have:=HST3.out.1;omega)).trans (show (st'.map Aj)[u]? =some (Value.int .i64 ya) by rw [Bk4,HYG.out];rfl));(have z6:=HS6.out.sp.frozenAt a);(have s6:=(HS6.out.sp.cellAt a (by have:=HST3.out.1;omega)).trans (show (st'.map Aj)[a]? =some (Value.int .i64 yb) by rw [Bk4,HYB.out];rfl));clear hh6 ho6 hv6 x5 x5b))
            have hyv0:0<=ya:=HYA.out.1;have hyv1:ya<=2000000000000:=by have:=HYA.out.2;have:=HLR.out;omega
            go_region
            go_wp2
            go_roundg (L.length-(j+1))
            case measure=>omega
            case rel=>exact ⟨j+1,_,st'.set a (ya+1),_,_,v6,by omega,Bi7 _,by have:=HLR.out;go_num,HNX.out,(HS6.out.go (Below.of_dr _ 1)).step a (ya+1),by rw [Bj6];exact HST3.out.1,fun x hx=>by
             have hx2:=List.mem_or_eq_of_mem_set hx;have h3:=HYA.out
             rcases hx2 with hx2|rfl
             ·have:=HST3.out.2 x hx2
              omega
             ·omega⟩
         ·obtain rfl:j=L.length:=by omega
          go_wp2
          go_roundg (settles-(i+1))
          case measure=>omega
          case rel=>exact ⟨i+1,far',st',l',p',v',by omega,Bi7 _,by go_num,HSI.out,HSR.out,HST3.out.1,fun x hx=>by have:=HST3.out.2 x hx;have:=HLR.out;omega⟩
   ·obtain rfl:i=settles:=by omega
    go_wp2
    try simp only [Exit.noGoto]
    refine bodyPost_ret (v:=.tuple #[.int .u64 0,.bool false]) (by simp [results,Tryz.results231,go_sem];try rfl) rfl ?_;exact ⟨0,false,rfl,by simp,HB.out.st HSR.out.bel⟩
theorem Zm (O:List (List (Int×Int))) (gone:List Bool) (vo vg:Value) (s t settles:Nat) (below hops B:Int) (w:World) (hn:NetW w vo vg O gone) (hs:s<gone.length) (ht:t<gone.length)
  (hO:NetOK O gone B) (hB:0<=B/\B<=1152921504606846976) (hbl:0<=below/\below<=1152921504606846976) (hse:settles<=1000000) (hlen:O.length<=60000) (hrow:∀l∈O,l.length<=1000000):
  Calls Tryz.prog 231 #[.agg #[vo,vg],.int .i64 s,.int .i64 t,.int .u64 below,.int .i64 hops,.int .i64 settles] w (Kf O gone s t below w):=by
 cases h1:gone[s] with
 |true=>exact Op O gone vo vg s t below hops settles w hn hs ht (.inl h1)
 |false=>
  cases h2:gone[t] with
  |true=>exact Op O gone vo vg s t below hops settles w hn hs ht (.inr h2)
  |false=>exact Zl O gone vo vg s t settles below hops B w hn hs ht h1 h2 hO hB hbl hse hlen hrow
end
section
namespace Ch
def Ic (o:Option Int) (w:Int):Bool:=match o with
 |some x=>decide (w<x)
 |none=>true
def Zh (f:Int->Option Int) (u x:Int):Int->Option Int:=fun k=>if k=u then some x else f k
def Sl (gone:List Bool) (v:Int) (m:Int->Option Int) (u w:Int):Int->Option Int:=
 if decide (u≠v)&&!(gone.getD u.toNat true)&&Ic (m u) w then Zh m u w else m
def LightOK (A:Int->Int->Prop) (gone:List Bool) (v:Int) (m:Int->Option Int):Prop:=∀u,
 (∀x,m u=some x->A u x/\u≠v/\gone.getD u.toNat true=false/\∀y,A u y->x<=y)/\(m u=none->u=v\/gone.getD u.toNat true=true\/∀y,¬A u y)
variable {A B:Int->Int->Prop} {gone:List Bool} {v:Int} {m:Int->Option Int}
theorem LightOK.congr (h:LightOK A gone v m) (e:∀u y,A u y↔B u y):LightOK B gone v m:=by
 have:A=B:=funext fun u=>funext fun y=>propext (e u y);rw [<-this];exact h
theorem LightOK.nil:LightOK (fun _ _=>False) gone v (fun _=>Option.none):=by
 intro u;constructor
 ·intro x h
  exact absurd h (by simp)
 ·intro _
  exact Or.inr (Or.inr fun _ h=>h)
theorem LightOK.upd (h:LightOK A gone v m) (u w:Int):LightOK (fun k y=>A k y\/(k=u/\y=w)) gone v (Sl gone v m u w):=by
 intro k;obtain ⟨h1,h2⟩:=h k;unfold Sl
 by_cases e:(decide (u≠v)&&!(gone.getD u.toNat true)&&Ic (m u) w)=true
 ·rw [if_pos e]
  simp only [Bool.and_eq_true,decide_eq_true_eq,Bool.not_eq_true'] at e;obtain ⟨⟨e1,e2⟩,e3⟩:=e;unfold Zh
  by_cases ek:k=u
  ·subst ek
   rw [if_pos rfl];refine ⟨?_,fun c=>by cases c⟩;rintro x hx
   cases hx
   refine ⟨.inr ⟨rfl,rfl⟩,e1,e2,?_⟩;rintro y (hy|⟨_,rfl⟩)
   ·cases hm:m k with
    |none=>
     rcases h2 hm with c|c|c
     ·exact absurd c e1
     ·rw [e2] at c;cases c
     ·exact absurd hy (c y)
    |some z=>
     rw [hm] at e3;have:=(h1 z hm).2.2.2 y hy;have e4:w<z:=by simpa [Ic] using e3
     omega
   ·exact Int.le_refl _
  ·rw [if_neg ek]
   refine ⟨fun x hx=>?_,fun hx=>?_⟩
   ·obtain ⟨a1,a2,a3,a4⟩:=h1 x hx
    refine ⟨.inl a1,a2,a3,?_⟩;rintro y (hy|⟨c,_⟩)
    ·exact a4 y hy
    ·exact absurd c ek
   ·rcases h2 hx with c|c|c
    ·exact .inl c
    ·exact .inr (.inl c)
    ·refine .inr (.inr ?_)
     rintro y (hy|⟨d,_⟩)
     ·exact c y hy
     ·exact ek d
 ·rw [if_neg e]
  refine ⟨fun x hx=>?_,fun hx=>?_⟩
  ·obtain ⟨a1,a2,a3,a4⟩:=h1 x hx
   refine ⟨.inl a1,a2,a3,?_⟩;rintro y (hy|⟨rfl,rfl⟩)
   ·exact a4 y hy
   ·apply Int.not_lt.1
    intro hlt
    apply e
    rw [a3,hx];simp [a2,Ic,hlt]
  ·rcases h2 hx with c|c|c
   ·exact .inl c
   ·exact .inr (.inl c)
   ·by_cases ek:k=u
    ·subst ek
     rw [hx] at e
     by_cases ev:k=v
     ·exact .inl ev
     ·refine .inr (.inl ?_)
      cases hg:gone.getD k.toNat true with
      |true=>rfl
      |false=>exact absurd (by rw [hg];simp [ev,Ic]) e
    ·refine .inr (.inr ?_)
     rintro y (hy|⟨d,_⟩)
     ·exact c y hy
     ·exact ek d
abbrev MM:=(Int->Option Int)×(Int->Option Int)
def Ts (gone:List Bool) (v i:Int) (m:MM) (a:Int×Int):MM:=
 if v=i then (m.1,Sl gone v m.2 a.1 a.2) else if v=a.1 then (Sl gone v m.1 i a.2,m.2) else m
def Sq (gone:List Bool) (v i:Int) (m:MM) (l:List (Int×Int)):MM:=l.foldl (Ts gone v i) m
def Ee (O:List (List (Int×Int))) (gone:List Bool) (v:Int):Nat->MM
 |0=>(fun _=>none,fun _=>none)
 |i+1=>Sq gone v i (Ee O gone v i) (O.getD i [])
def LOK (A B:Int->Int->Prop) (gone:List Bool) (v:Int) (m:MM):Prop:=LightOK A gone v m.1/\LightOK B gone v m.2
theorem Mc (i:Int):∀(l:List (Int×Int)) (A B:Int->Int->Prop) (m:MM),LOK A B gone v m->
  LOK (fun k y=>A k y\/(v≠i/\k=i/\(v,y)∈l)) (fun k y=>B k y\/(v=i/\(k,y)∈l)) gone v (Sq gone v i m l)
 |[],A,B,m,h=>⟨h.1.congr (by simp),h.2.congr (by simp)⟩
 |a::l,A,B,m,h=>by
  show LOK _ _ gone v (Sq gone v i (Ts gone v i m a) l)
  by_cases e:v=i
  ·have hs:Ts gone v i m a=(m.1,Sl gone v m.2 a.1 a.2):=if_pos e
   rw [hs];have:=Mc i l A (fun k y=>B k y\/(k=a.1/\y=a.2)) (m.1,Sl gone v m.2 a.1 a.2) ⟨h.1,h.2.upd a.1 a.2⟩;refine ⟨this.1.congr ?_,this.2.congr ?_⟩
   ·intro u y;simp [e]
   ·intro u y
    constructor
    ·rintro ((k|⟨rfl,rfl⟩)|⟨k1,k2⟩)
     ·exact .inl k
     ·exact .inr ⟨e,by simp⟩
     ·exact .inr ⟨k1,by simp [k2]⟩
    ·rintro (k|⟨k1,k2⟩)
     ·exact .inl (.inl k)
     ·rcases Bl7.1 k2 with rfl|k2
      ·exact .inl (.inr ⟨rfl,rfl⟩)
      ·exact .inr ⟨k1,k2⟩
  ·by_cases e2:v=a.1
   ·have hs:Ts gone v i m a=(Sl gone v m.1 i a.2,m.2):=(if_neg e).trans (if_pos e2)
    rw [hs];have:=Mc i l (fun k y=>A k y\/(k=i/\y=a.2)) B (Sl gone v m.1 i a.2,m.2) ⟨h.1.upd i a.2,h.2⟩;refine ⟨this.1.congr ?_,this.2.congr ?_⟩
    ·intro u y
     constructor
     ·rintro ((k|⟨rfl,rfl⟩)|⟨k1,k2,k3⟩)
      ·exact .inl k
      ·exact .inr ⟨e,rfl,by rw [e2];simp⟩
      ·exact .inr ⟨k1,k2,by simp [k3]⟩
     ·rintro (k|⟨k1,k2,k3⟩)
      ·exact .inl (.inl k)
      ·rcases Bl7.1 k3 with k3|k3
       ·exact .inl (.inr ⟨k2,by rw [<-k3]⟩)
       ·exact .inr ⟨k1,k2,k3⟩
    ·intro u y;simp [e]
   ·have hs:Ts gone v i m a=m:=(if_neg e).trans (if_neg e2)
    rw [hs];have:=Mc i l A B _ h;refine ⟨this.1.congr ?_,this.2.congr ?_⟩
    ·intro u y
     have:(v,y)≠a:=fun k=>e2 (by rw [<-k]);simp [this]
    ·intro u y;simp [e]
theorem Tt (O:List (List (Int×Int))) (gone:List Bool) (v:Int):∀i:Nat,
  LOK (fun k y=>0<=k/\k<i/\k≠v/\(v,y)∈Cl O k) (fun k y=>0<=v/\v<i/\(k,y)∈Cl O v) gone v (Ee O gone v i)
 |0=>⟨LightOK.nil.congr (by intro u y;constructor;exact False.elim;rintro ⟨a,b,_⟩;simp at b;omega),LightOK.nil.congr (by intro u y;constructor;exact False.elim;rintro ⟨a,b,_⟩;simp at b;omega)⟩
 |i+1=>by
  have:=Mc (i:Int) (O.getD i []) _ _ _ (Tt O gone v i);have hrow:Cl O (i:Int)=O.getD i []:=by unfold Cl;simp
  refine ⟨this.1.congr ?_,this.2.congr ?_⟩
  ·intro u y
   constructor
   ·rintro (⟨a,b,c,d⟩|⟨a,rfl,c⟩)
    ·exact ⟨a,by push_cast;omega,c,d⟩
    ·exact ⟨by omega,by push_cast;omega,fun e=>a e.symm,by rw [hrow];exact c⟩
   ·rintro ⟨a,b,c,d⟩
    by_cases e:u=i
    ·subst e
     exact .inr ⟨fun e=>c e.symm,rfl,by rw [<-hrow];exact d⟩
    ·exact .inl ⟨a,by push_cast at b;omega,c,d⟩
  ·intro u y
   constructor
   ·rintro (⟨a,b,d⟩|⟨rfl,c⟩)
    ·exact ⟨a,by push_cast;omega,d⟩
    ·exact ⟨by omega,by push_cast;omega,by rw [hrow];exact c⟩
   ·rintro ⟨a,b,d⟩
    by_cases e:v=i
    ·subst e
     exact .inr ⟨rfl,by rw [<-hrow];exact d⟩
    ·exact .inl ⟨a,by push_cast at b;omega,d⟩
structure Lights (O:List (List (Int×Int))) (gone:List Bool) (v:Int) (m:MM):Prop where
 to:LightOK (fun k y=>Aa O.length k/\k≠v/\(v,y)∈Cl O k) gone v m.1
 fr:LightOK (fun k y=>(k,y)∈Cl O v) gone v m.2
theorem Aa7 (O:List (List (Int×Int))) (gone:List Bool) {v:Int} (hv:Aa O.length v):Lights O gone v (Ee O gone v O.length):=by
 obtain ⟨h1,h2⟩:=Tt O gone v O.length;exact ⟨h1.congr (fun u y=>⟨fun ⟨a,b,c,d⟩=>⟨⟨a,b⟩,c,d⟩,fun ⟨⟨a,b⟩,c,d⟩=>⟨a,b,c,d⟩⟩),h2.congr (fun u y=>⟨fun ⟨_,_,c⟩=>c,fun c=>⟨hv.1,hv.2,c⟩⟩)⟩
structure KeptI (O:List (List (Int×Int))) (gone:List Bool) (v:Int) (m:MM) (i j:Nat) (l:List (Int×Int×Int)):Prop where
 is:∀y∈l,Aa O.length y.1/\Aa O.length y.2.1/\y.1≠y.2.1/\∃a b,m.1 y.1=some a/\m.2 y.2.1=some b/\y.2.2=a+b
 all:∀(u w:Nat) (a b:Int),(u<i\/(u=i/\w<j))->u≠w->m.1 u=some a->m.2 w=some b->w<O.length->((u:Int),(w:Int),a+b)∈l\/∃e,e<a+b/\Way (NR O (gone.set v.toNat true)) Any u w e
 len:l.length<=i*O.length+j
variable {O:List (List (Int×Int))} {mm:MM} {i j:Nat} {l:List (Int×Int×Int)}
theorem KeptI.begin:KeptI O gone v mm 0 0 []:=⟨by simp,by rintro u w a b (h|⟨_,h⟩)<;>omega,by simp⟩
theorem KeptI.row (h:KeptI O gone v mm i O.length l):KeptI O gone v mm (i+1) 0 l:=
 ⟨h.is,fun u w a b hu hne ha hb hw=>h.all u w a b (by omega) hne ha hb hw,by have:=h.len;rw [Nat.succ_mul];omega⟩
theorem KeptI.skipRow (h:KeptI O gone v mm i 0 l) (hn:mm.1 i=none):KeptI O gone v mm (i+1) 0 l:=
 ⟨h.is,fun u w a b hu hne ha hb hw=>h.all u w a b (by
  rcases hu with hu|⟨_,hu⟩
  ·by_cases e:u=i
   ·subst e;rw [hn] at ha;cases ha
   ·omega
  ·omega) hne ha hb hw,by have:=h.len;rw [Nat.succ_mul];omega⟩
theorem KeptI.skip (h:KeptI O gone v mm i j l) (hn:mm.2 j=none\/i=j):KeptI O gone v mm i (j+1) l:=
 ⟨h.is,fun u w a b hu hne ha hb hw=>by
  by_cases e:u=i/\w=j
  ·obtain ⟨rfl,rfl⟩:=e
   rcases hn with hn|hn
   ·rw [hn] at hb;cases hb
   ·exact absurd hn hne
  ·exact h.all u w a b (by omega) hne ha hb hw,by have:=h.len;omega⟩
theorem KeptI.lighter (h:KeptI O gone v mm i j l) {a b e:Int} (ha:mm.1 i=some a) (hb:mm.2 j=some b) (hw:Way (NR O (gone.set v.toNat true)) Any i j e) (he:e<a+b):KeptI O gone v mm i (j+1) l:=
 ⟨h.is,fun u w a' b' hu hne ha' hb' hw'=>by
  by_cases e2:u=i/\w=j
  ·obtain ⟨rfl,rfl⟩:=e2
   rw [ha] at ha';rw [hb] at hb'
   cases ha';cases hb'
   exact .inr ⟨e,he,hw⟩
  ·exact h.all u w a' b' (by omega) hne ha' hb' hw',by have:=h.len;omega⟩
theorem KeptI.keep (h:KeptI O gone v mm i j l) (hi:i<O.length) (hj:j<O.length) (hij:i≠j) {a b:Int} (ha:mm.1 i=some a) (hb:mm.2 j=some b):KeptI O gone v mm i (j+1) (l++[((i:Int),(j:Int),a+b)]):=by
 refine ⟨?_,?_,by have:=h.len;simp;omega⟩
 ·intro y hy
  rcases Bl8.1 hy with hy|hy
  ·exact h.is y hy
  ·rw [Bk2] at hy
   subst hy;exact ⟨⟨by simp,by simpa using hi⟩,⟨by simp,by simpa using hj⟩,by simp only;omega,a,b,ha,hb,rfl⟩
 ·intro u w a' b' hu hne ha' hb' hw'
  by_cases e2:u=i/\w=j
  ·obtain ⟨rfl,rfl⟩:=e2
   rw [ha] at ha';rw [hb] at hb'
   cases ha';cases hb'
   exact .inl (by simp)
  ·rcases h.all u w a' b' (by omega) hne ha' hb' hw' with k|k
   ·exact .inl (by simp [k])
   ·exact .inr k
theorem KeptI.ok {c:CoreD} {n:Nat} {out:List Int} {z:Int} (hO:c.O=O) (hn:O.length=n) (hinv:InvN n c) (hz:Aa n z) (hg:∀u,gone.getD u.toNat true=false->Aa n u->u∉out) (hg2:∀u,Aa n u->u∉out->gone.getD u.toNat true=false)
  (hm:Lights O gone z mm) (hends:∀u w x,Aa n u->(w,x)∈Cl O u->Aa n w) (h:KeptI O gone z mm O.length 0 l) (hgl:gone.length=n):KeptOK c n out z l:=by
 subst hO;have hset:∀u,Aa n u->((gone.set z.toNat true).getD u.toNat true=false->u∉out/\u≠z):=by
  intro u hu k;rw [Dw _ _ _ _ _ (by have:=hz.1;have:=hz.2;omega)] at k
  split at k
  ·cases k
  ·rename_i e
   exact ⟨hg u k hu,by rintro rfl;exact e rfl⟩
 refine ⟨?_,?_⟩
 ·intro y hy
  obtain ⟨h1,h2,h3,a,b,h4,h5,h6⟩:=h.is y hy;obtain ⟨p1,p2,p3,-⟩:=(hm.to y.1).1 a h4;obtain ⟨q1,q2,q3,-⟩:=(hm.fr y.2.1).1 b h5;rw [hn] at h1 h2;exact ⟨h1,h2,hg _ p3 h1,hg _ q3 h2,p2,q2,h3,a,b,p1.2.2,q1,h6⟩
 ·intro u w a b hu hw huo hwo huz hwz huw ha hb
  have gu:=hg2 u hu huo;have gw:=hg2 w hw hwo;obtain ⟨x,hx⟩:∃x,mm.1 u=some x:=by
   cases hx:mm.1 u with
   |some x=>exact ⟨x,rfl⟩
   |none=>
    rcases (hm.to u).2 hx with k|k|k
    ·exact absurd k huz
    ·rw [gu] at k;cases k
    ·exact absurd ⟨by rw [hn];exact hu,huz,ha⟩ (k a)
  obtain ⟨y,hy⟩:∃y,mm.2 w=some y:=by
   cases hy:mm.2 w with
   |some y=>exact ⟨y,rfl⟩
   |none=>
    rcases (hm.fr w).2 hy with k|k|k
    ·exact absurd k hwz
    ·rw [gw] at k;cases k
    ·exact absurd hb (k b)
  obtain ⟨p1,-,-,p4⟩:=(hm.to u).1 x hx;obtain ⟨q1,-,-,q4⟩:=(hm.fr w).1 y hy;have uniq:∀u v w1 w2,Aa n u->(v,w1)∈Cl c.O u->(v,w2)∈Cl c.O u->w1=w2:=by
   intro u v w1 w2 hu k1 k2;obtain ⟨i1,x1,a1,a2,a3⟩:=(hinv.arc _ _ _ hu).1 k1;obtain ⟨i2,x2,b1,b2,b3⟩:=(hinv.arc _ _ _ hu).1 k2;rw [a1] at b1
   cases b1
   rw [a2] at b2
   cases b2
   omega
  obtain rfl:=uniq u z a x hu ha p1.2.2;obtain rfl:=uniq z w b y hz hb q1;have hu1:((u.toNat:Nat):Int)=u:=by have:=hu.1;omega
  have hw1:((w.toNat:Nat):Int)=w:=by have:=hw.1;omega
  rcases h.all u.toNat w.toNat a b (.inl (by have:=hu.1;have:=hu.2;omega)) (by omega) (by rw [hu1];exact hx) (by rw [hw1];exact hy) (by have:=hw.1;have:=hw.2;omega) with k|⟨e,he,k⟩
  ·rw [hu1,hw1] at k
   exact .inl k
  ·rw [hu1,hw1] at k
   refine .inr ⟨e,he,?_⟩;refine k.mono (fun s t x k=>?_) (fun _ h=>h);obtain ⟨k1,k2,k3⟩:=k;rw [hn] at k1;have k4:=hends _ _ _ k1 k2;obtain ⟨k5,k6⟩:=hset _ k4 k3;exact ⟨k1,k2,k5,k6⟩
end Ch
end
section
open Go Go.Proofs Go.RowKit Go.Shelf Ch
abbrev Su (u:Int):Lit:=.int .i64 u
abbrev In6 (u:Int):Prop:= -9223372036854775808<=u/\u<=9223372036854775807
theorem Rc {u:Int} (h:In6 u):(Su u).wf=true:=by
 simp [Lit.wf,IntKind.min,IntKind.max,IntKind.signed,IntKind.bits];omega
theorem Bd7 {x:Int} (h:0<=x/\x<=18446744073709551615):(Lit.int .u64 x).wf=true:=by
 simp [Lit.wf,IntKind.min,IntKind.max,IntKind.signed,IntKind.bits];omega
theorem Ma:Maps.Keyed Tryz.prog 3:=Maps.int_keyed Tryz.underlying3
theorem Lz:Tryz.prog.underlying 148=some (.map 3 37):=Tryz.underlying148
def MapW (w:World) (b n:Nat) (f:Int->Option Int):Prop:=
 ∃D:DataW Unit,w.ownsMap Tryz.prog 3 (plainElem Tryz.prog 37) b n D/\∀u,In6 u->Maps.has D (Su u)=(f u).isSome/\D.atKey (Su u) (.lit (.int .u64 0))=.lit (.int .u64 ((f u).getD 0))
variable {w w':World} {b n:Nat} {f:Int->Option Int}
theorem MapW.lt (h:MapW w b n f):b<w.heap.size:=let ⟨_,k,_⟩:=h;k.lt
theorem MapW.mono (h:MapW w b n f) {n':Nat} (hn:n<=n'):MapW w b n' f:=let ⟨D,k,r⟩:=h;⟨D,k.mono hn,r⟩
theorem MapW.eq (h:MapW w b n f) (he:w'.heap[b]? =w.heap[b]?):MapW w' b n f:=by
 obtain ⟨D,⟨es,clock,hb,r⟩,q⟩:=h;exact ⟨D,⟨es,clock,he.trans hb,r⟩,q⟩
theorem MapW.go (h:MapW w b n f) (hb:Below w.heap.size w w'):MapW w' b n f:=h.eq (hb.block b h.lt)
theorem MapW.off {X:Nat->Prop} (h:MapW w b n f) (ho:OffX X w w') (hn:¬X b):MapW w' b n f:=h.eq (ho.block b h.lt hn)
theorem MapW.new (w:World):MapW (w.alloc (.map #[] 0)) w.heap.size 0 (fun _=>none):=
 ⟨.map [],World.ownsMap_made w _ _ _,fun u _=>⟨rfl,rfl⟩⟩
theorem MapW.look (h:MapW w b n f) {u:Int} (hu:In6 u):(Instr.lookup 148 (.map (some b)) (.int .i64 u) true).run Tryz.prog w=.ok (.tuple #[.int .u64 ((f u).getD 0),.bool (f u).isSome]) w:=by
 obtain ⟨D,k,q⟩:=h;obtain ⟨v,ps,h1,h2⟩:=k.look_ok Ma Lz (z:=.int .u64 0) (by kernel_rfl) (zd:=.lit (.int .u64 0)) (zp:=[]) (plainElem_int Tryz.underlying37 (by decide)) (key:=.int .i64 u) (kl:=Su u) (Maps.keyOf_int_mk Tryz.underlying3 (Rc hu));obtain ⟨q1,q2⟩:=q u hu;rw [q2] at h2;obtain ⟨c,rfl,hc,_⟩:=plainElem_int_inv Tryz.underlying37 h2;simp only [Prod.mk.injEq,DataW.lit.injEq,Lit.int.injEq,true_and] at hc;rw [h1,q1,hc.1]
theorem MapW.put (h:MapW w b n f) (hn:n<1000000000000000000) {u x:Int} (hu:In6 u) (hx:0<=x/\x<=18446744073709551615):
  ∃w',(Instr.mapUpdate 148 (.map (some b)) (.int .i64 u) (.int .u64 x)).run Tryz.prog w=.ok () w'/\MapW w' b (n+1) (Zh f u x)/\OffX (· =b) w w':=by
 obtain ⟨D,k,q⟩:=h;obtain ⟨w',h1,h2,h3⟩:=k.store (H:=Unit) Ma Lz (by unfold maxLen;omega) (key:=.int .i64 u) (val:=.int .u64 x) (kl:=Su u) (d:=.lit (.int .u64 x)) (ps:=[]) (Maps.keyOf_int_mk Tryz.underlying3 (Rc hu)) (plainElem_int Tryz.underlying37 (Bd7 hx));have hg:=h3.grown;refine ⟨w',h1,⟨_,h2,fun v hv=>?_⟩,⟨hg.os,hg.tape,hg.output,hg.size,fun j hj hjb=>hg.block j hj (fun e=>hjb (Bl4 e))⟩⟩;obtain ⟨q1,q2⟩:=q v hv;unfold Zh
 by_cases e:v=u
 ·subst e
  rw [if_pos rfl,Maps.has_put_same k.isMap (k:=Su v) trivial,Maps.atKey_put_same k.isMap (k:=Su v) trivial];exact ⟨rfl,rfl⟩
 ·rw [if_neg e,Maps.has_put_other (fun h=>e (by cases h;rfl)),Maps.atKey_put_other (fun h=>e (by cases h;rfl))]
  exact ⟨q1,q2⟩
end
end Go.Proofs.YteaaapdjplbljaaGreat
