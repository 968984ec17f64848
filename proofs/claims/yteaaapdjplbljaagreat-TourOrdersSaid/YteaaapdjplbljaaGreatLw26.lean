/- Walk of package hier: Made. What is built is made of its graph, in plain Lean. Walk of package hier: clones of hierarchies and of graphs. -/
import Derived.Test.YteaaapdjplbljaaGreatProg
import Derived.Test.YteaaapdjplbljaaGreatLw25
import Derived.Deep.CutRange
set_option linter.unusedVariables false
set_option linter.unusedSimpArgs false
set_option linter.unnecessarySimpa false
section
namespace Go.Proofs.YteaaapdjplbljaaGreat
open Go Go.Proofs Go.RowKit Go.Shelf Go.Proofs.YteaaapdjplbljaaGreat.Hp Go.Proofs.YteaaapdjplbljaaGreat.Ch
def madeB (es:List EdgeD) (R:List Int) (S:List SC) (i:Nat):Bool:=edgeF es (S.getD i scZ)||twoF R S i (S.getD i scZ)
def firstBad (es:List EdgeD) (R:List Int) (S:List SC):Option Nat:=(List.range S.length).find? (fun i=>!madeB es R S i)
def madeR (g:GD) (R:List Int) (S:List SC):Int×Bool:=
 if rightG g≠0 then (-2,false) else if (R.length:Int)≠g.n∨rankB R=false then (-1,false) else
 match firstBad g.es R S with
 |some i=>((i:Int),false)
 |none=>(0,true)
theorem firstBad_none {es:List EdgeD} {R:List Int} {S:List SC} (h:∀j,j<S.length→madeB es R S j=true):firstBad es R S=none:=by
 unfold firstBad
 rw [List.find?_eq_none]
 intro i hi
 rw [h i (List.mem_range.1 hi)]
 simp
theorem firstBad_some {es:List EdgeD} {R:List Int} {S:List SC} {i:Nat} (hi:i<S.length) (h:∀j,j<i→madeB es R S j=true) (hb:madeB es R S i=false):firstBad es R S=some i:=by
 unfold firstBad
 rw [List.find?_range_eq_some]
 exact ⟨by rw [hb];rfl,List.mem_range.2 hi,fun j hj=>by rw [h j hj];rfl⟩
theorem edgeF_true {es:List EdgeD} {x:SC} (h:edgeF es x=true):0≤x.e∧x.a= -1∧x.b= -1∧∃k:Nat,x.e=(k:Int)∧es[k]? =some ⟨x.f,x.t,x.w⟩:=by
 unfold edgeF edgeB at h
 simp only [Bool.and_eq_true,decide_eq_true_eq,beq_iff_eq] at h
 obtain ⟨⟨⟨⟨h1,h2⟩,h3⟩,h4⟩,h5⟩:=h
 refine ⟨h1,h3,h4,x.e.toNat,by omega,?_⟩
 cases e:es[x.e.toNat]? with
 |none=>rw [e] at h5;cases h5
 |some y=>
  rw [e] at h5
  simp only [Bool.and_eq_true,beq_iff_eq] at h5
  obtain ⟨yf,yt,yw⟩:=y
  simp only at h5
  rw [h5.1.1,h5.1.2,h5.2]
theorem twoF_true {R:List Int} {S:List SC} {i:Nat} {x:SC} (h:twoF R S i x=true):x.e= -1∧x.f≠x.t∧∃a b:Nat,x.a=(a:Int)∧x.b=(b:Int)∧a<i∧b<i∧(S.getD a scZ).f=x.f∧(S.getD a scZ).t=(S.getD b scZ).f∧(S.getD b scZ).t=x.t∧wrapU ((S.getD a scZ).w+(S.getD b scZ).w)=x.w∧rAt R (S.getD a scZ).t<min (rAt R x.f) (rAt R x.t):=by
 unfold twoF pairF meetF scAt at h
 simp only [Bool.and_eq_true,decide_eq_true_eq,beq_iff_eq,Bool.not_eq_true',beq_eq_false_iff_ne] at h
 obtain ⟨⟨⟨⟨h1,h2,h3⟩,h4,h5⟩,h6⟩,⟨⟨⟨h7,h8⟩,h9⟩,h10⟩,h11⟩:=h
 exact ⟨h1,h6,x.a.toNat,x.b.toNat,by omega,by omega,by omega,by omega,h7,h8,h9,h10,h11⟩
theorem made_nodes {es:List EdgeD} {n:Nat} {R:List Int} {S:List SC} {i:Nat} (hE:EdgesOK n es) (hi:i≤S.length) (h:∀j,j<i→madeB es R S j=true):∀k,k<i→nodeN n (S.getD k scZ).f∧nodeN n (S.getD k scZ).t:=by
 intro k
 induction k using Nat.strongRecOn with
 |_ k ih=>
  intro hk
  have hm:=h k hk
  unfold madeB at hm
  rw [Bool.or_eq_true] at hm
  rcases hm with hm|hm
  ·obtain ⟨_,_,_,j,_,e⟩:=edgeF_true hm
   have:=hE.ok _ (List.mem_of_getElem? e)
   exact ⟨this.1,this.2.1⟩
  ·obtain ⟨_,_,a,b,_,_,h3,h4,h5,h6,h7,_⟩:=twoF_true hm
   rw [←h5,←h7]
   exact ⟨(ih a h3 (by omega)).1,(ih b h4 (by omega)).2⟩
def MadePost (mr:Int×Bool) (w:World) (e:Ending) (w':World):Prop:=e=.returned (.tuple #[.int .i64 mr.1,.bool mr.2])∧Below w.heap.size w w'
theorem MadePost.mk {mr:Int×Bool} {w w':World} {a:Int} {b:Bool} (h:mr=(a,b)) (hb:Below w.heap.size w w'):MadePost mr w (.returned (.tuple #[.int .i64 a,.bool b])) w':=by
 subst h
 exact ⟨rfl,hb⟩
set_option maxRecDepth 100000 in
set_option maxHeartbeats 4000000 in
theorem made_any (g:GD) (n:Nat) (R:List Int) (S:List SC) (ao ro so:Option Addr) (cap rc sc:Nat) (w:World) (hn:g.n=(n:Int)∨rightG g≠0) (hc:Cel w ao (flat g.es)) (hr:Cel w ro (R.map encI)) (hS:Cel w so (flatS S)) (hl:g.es.length≤1000000) (hrl:R.length≤1000000) (hsl:S.length≤1000000) (hsc:S.length≤sc):
  Calls Tryz.prog 111 #[gV g.n ao g.es.length cap,.agg #[.slice ro R.length rc,.slice so S.length sc]] w (MadePost (madeR g R S) w):=by
 obtain ⟨W,hW⟩:∃W,W=(w.alloc (Obj.cells #[.int .i64 g.n,.slice ao g.es.length cap] 24)).alloc (Obj.cells #[.slice ro R.length rc,.slice so S.length sc] 81):=⟨_,rfl⟩
 have hbw:Below w.heap.size w W:=by rw [hW];exact (Below.of_al _ _).al _
 have c0:W.cell? ⟨w.heap.size,0,none⟩=some (.int .i64 g.n):=by rw [hW];go_simp
 have c1:W.cell? ⟨w.heap.size,1,none⟩=some (.slice ao g.es.length cap):=by rw [hW];go_simp
 have d0:W.cell? ⟨w.heap.size+1,0,none⟩=some (.slice ro R.length rc):=by rw [hW];go_simp
 have d1:W.cell? ⟨w.heap.size+1,1,none⟩=some (.slice so S.length sc):=by rw [hW];go_simp
 have HGR:=Lib.hid (show Calls Tryz.prog 72 #[gV g.n ao g.es.length cap] W (fun e w'=>e=.returned (.int .i64 (rightG g))∧Below W.heap.size W w') from gRight_any g ao cap W (by omega) (hc.go hbw))
 have HRK:=Lib.hid (fun W' (h:Below W.heap.size W W')=>rkRight_any R ro rc W' hrl ((hr.go hbw).go h))
 have HW:=Lib.hid hW
 have HB:=Lib.hid hbw
 have HC:=Lib.hid (hc.go hbw)
 have HR:=Lib.hid (hr.go hbw)
 have HS:=Lib.hid (hS.go hbw)
 have HM:=Lib.hid (show madeR g R S=if rightG g≠0 then (-2,false) else if (R.length:Int)≠g.n∨rankB R=false then (-1,false) else (match firstBad g.es R S with|some i=>((i:Int),false)|none=>(0,true)) from rfl)
 have hsl2:(S.length:Int)≤1000000:=by omega
 have hrl2:(R.length:Int)≤1000000:=by omega
 generalize madeR g R S=mr at*
 clear hW hbw hc hr hS
 by_cases hgz:rightG g=0
 rotate_left
 ·have hm:=HM.out
  rw [if_pos hgz] at hm
  have hb:(rightG g==0)=false:=by simpa using hgz
  have hb2:(rightG g != 0)=true:=by simpa using hgz
  have HM2:=Lib.hid hm
  clear hm HM hgz
  generalize rightG g=rg at*
  go_enter Tryz.func111,Tryz.ntmps111
  go_upto_region 1 with (fail)
  rw [←HW.out]
  go_wp2_with (go_at_call 72;refine HGR.out.mono ?_;rintro e w1 ⟨rfl,hb1⟩)
  refine bodyPost_ret (v:=.tuple #[.int .i64 (-2),.bool false]) (by simp [results,Tryz.results111,go_sem];try rfl) rfl ?_
  exact .mk HM2.out (HB.out.st hb1)
 ·have hgn:g.n=(n:Int):=hn.resolve_right (fun h=>h hgz)
  have HE:=Lib.hid (edges_ok hgz hgn)
  have hm:=HM.out
  rw [if_neg (by simp [hgz])] at hm
  rw [hgz] at HGR
  clear hn HM
  obtain ⟨gn,es⟩:=g
  dsimp only at*
  subst hgn
  have HM:=Lib.hid hm
  clear hm
  by_cases hln:R.length=n
  rotate_left
  ·have hm:=HM.out
   rw [if_pos (.inl (by omega))] at hm
   have HM2:=Lib.hid hm
   have hb:((R.length:Int) != (n:Int))=true:=by simp;omega
   have hb2:((R.length:Int)==(n:Int))=false:=by simp;omega
   clear hm HM hln hgz
   go_enter Tryz.func111,Tryz.ntmps111
   go_upto_region 1 with (fail)
   rw [←HW.out]
   go_wp2_with (go_at_call 72;refine HGR.out.mono ?_;rintro e w1 ⟨rfl,hb1⟩;(have c0':=cell_later hb1 c0);(have d0':=cell_later hb1 d0))
   refine bodyPost_ret (v:=.tuple #[.int .i64 (-1),.bool false]) (by simp [results,Tryz.results111,go_sem];try rfl) rfl ?_
   exact .mk HM2.out (HB.out.st hb1)
  ·have hb:((R.length:Int) != (n:Int))=false:=by simp;omega
   have hb2:((R.length:Int)==(n:Int))=true:=by simp;omega
   cases hrk:rankB R with
   |false=>
    have hm:=HM.out
    rw [if_pos (.inr hrk)] at hm
    have HM2:=Lib.hid hm
    rw [hrk] at HRK
    clear hm HM hln hgz hrk
    go_enter Tryz.func111,Tryz.ntmps111
    go_upto_region 1 with (fail)
    rw [←HW.out]
    go_wp2_with (first
     |(go_at_call 72;refine HGR.out.mono ?_;rintro e w1 ⟨rfl,hb1⟩;(have c0':=cell_later hb1 c0);(have d0':=cell_later hb1 d0);(have HB1:=Lib.hid hb1);clear hb1)
     |(go_at_call 160;refine (HRK.out _ HB1.out).mono ?_;rintro e w2 ⟨rfl,hb2'⟩))
    refine bodyPost_ret (v:=.tuple #[.int .i64 (-1),.bool false]) (by simp [results,Tryz.results111,go_sem];try rfl) rfl ?_
    exact .mk HM2.out (HB.out.st (HB1.out.st hb2'))
   |true=>
    have hm:=HM.out
    rw [if_neg (by rw [hrk];simp;omega)] at hm
    have HM2:=Lib.hid hm
    rw [hrk] at HRK
    have HLN:=Lib.hid hln
    clear hm HM hln hgz hrk
    go_enter Tryz.func111,Tryz.ntmps111
    go_upto_region 1 with (fail)
    rw [←HW.out]
    go_wp2_with (first
     |(go_at_call 72;refine HGR.out.mono ?_;rintro e w1 ⟨rfl,hb1⟩;(have c0':=cell_later hb1 c0);(have d0':=cell_later hb1 d0);(have HB1:=Lib.hid hb1);clear hb1)
     |(go_at_call 160;refine (HRK.out _ HB1.out).mono ?_;rintro e w2 ⟨rfl,hb2'⟩;(have HB2:=Lib.hid (HB1.out.st hb2'));(have d1':=cell_later (HB1.out.st hb2') d1);clear hb2'))
    go_loopg [28] S.length (fun gm v28 wr=>∃k:Nat,k≤S.length∧S.length-k≤gm∧v28=.int .i64 k∧Aside (Below W.heap.size W wr)∧Aside (∀j,j<k→madeB es R S j=true))
    case atStart=>exact ⟨0,Nat.zero_le _,by omega,rfl,HB2.out,fun j hj=>absurd hj (Nat.not_lt_zero _)⟩
    case round=>
     clear c0' d0' d1'
     obtain ⟨k,hk,hg,rfl,HZ,HA⟩:=hrel
     by_cases hlt:k<S.length
     ·have hlt2:(k:Int)<(S.length:Int):=by omega
      have hk0:(0:Int)≤(k:Int):=by omega
      have hksc:(k:Int)≤(sc:Int):=by omega
      have hksc2:k≤sc:=by omega
      obtain ⟨sb,sof,e,y0,y1,y2,y3,y4,y5⟩:=cel_sc6 (HS.out.go HZ.out) hlt
      subst e
      have HMB:=Lib.hid (show madeB es R S k=(edgeF es S[k]||twoF R S k S[k]) by unfold madeB;rw [List.getD_eq_getElem?_getD,List.getElem?_eq_getElem hlt];rfl)
      have HND:=Lib.hid (fun (j:Nat) (hj:j<k)=>(show nodeN R.length (S[j]'(by omega)).f∧nodeN R.length (S[j]'(by omega)).t by
       have:=made_nodes HE.out hk HA.out j hj
       rw [List.getD_eq_getElem?_getD,List.getElem?_eq_getElem (by omega:j<S.length)] at this
       rw [HLN.out]
       exact this))
      have HED:=Lib.hid (fun W' (hb:Below W.heap.size W W')=>edge_any (n:Int) es ao cap S[k] W' (HC.out.go hb))
      have HTW:=Lib.hid (fun W' (hb:Below W.heap.size W W')=>two_any R ro (some ⟨sb,sof,none⟩) rc sc k S S[k] W' (HR.out.go hb) (HS.out.go hb) hk hsl hrl HND.out)
      unfold TwoPost at HTW
      generalize S[k]=x at*
      go_upto_region 8 with (fail)
      obtain ⟨W8,hW8⟩:∃W8,W8=wr.alloc (Obj.cells #[.int .i64 x.f,.int .i64 x.t,.int .u64 x.w,.int .i64 x.e,.int .i64 x.a,.int .i64 x.b] 187):=⟨_,rfl⟩
      have hb8:Below wr.heap.size wr W8:=by rw [hW8];exact Below.of_al _ _
      have hz8:=HZ.out.st hb8
      have HS8:=Lib.hid (show W8.cell? ⟨w.heap.size,0,none⟩=some (.int .i64 (n:Int))∧W8.cell? ⟨w.heap.size,1,none⟩=some (.slice ao es.length cap)∧W8.cell? ⟨w.heap.size+1,0,none⟩=some (.slice ro R.length rc)∧W8.cell? ⟨w.heap.size+1,1,none⟩=some (.slice (some ⟨sb,sof,none⟩) S.length sc)∧W8.cell? ⟨wr.heap.size,0,none⟩=some (.int .i64 x.f)∧W8.cell? ⟨wr.heap.size,1,none⟩=some (.int .i64 x.t)∧W8.cell? ⟨wr.heap.size,2,none⟩=some (.int .u64 x.w)∧W8.cell? ⟨wr.heap.size,3,none⟩=some (.int .i64 x.e)∧W8.cell? ⟨wr.heap.size,4,none⟩=some (.int .i64 x.a)∧W8.cell? ⟨wr.heap.size,5,none⟩=some (.int .i64 x.b)∧Below W8.heap.size W8 W8 from ⟨cell_later hz8 c0,cell_later hz8 c1,cell_later hz8 d0,cell_later hz8 d1,by rw [hW8];go_simp,by rw [hW8];go_simp,by rw [hW8];go_simp,by rw [hW8];go_simp,by rw [hW8];go_simp,by rw [hW8];go_simp,Below.refl _ _⟩)
      have HZ8:=Lib.hid hz8
      rw [←hW8]
      clear hW8 hb8 hz8 y0 y1 y2 y3 y4 y5
      go_cut [47] from 29 to 49 (fun v47 wc=>∃b,v47=.bool b∧b=(!madeB es R S k)∧Below W8.heap.size W8 wc)
      case first=>
       obtain ⟨g0,g1,g2,g3,g4,g5,g6,g7,g8,g9,-⟩:=HS8.out
       have e0:=fun p=>cell_ext p g0
       have e1:=fun p=>cell_ext p g1
       have e2:=fun p=>cell_ext p g2
       have e3:=fun p=>cell_ext p g3
       have e4:=fun p=>cell_ext p g4
       have e5:=fun p=>cell_ext p g5
       have e6:=fun p=>cell_ext p g6
       have e7:=fun p=>cell_ext p g7
       have e8:=fun p=>cell_ext p g8
       have e9:=fun p=>cell_ext p g9
       have X1:=Lib.hid (fun p=>HED.out (ext W8 p) (HZ8.out.st (below_ext W8 p)))
       have X2:=Lib.hid (fun p=>HTW.out (ext W8 p) (HZ8.out.st (below_ext W8 p)))
       clear g0 g1 g2 g3 g4 g5 g6 g7 g8 g9 HED HTW
       generalize edgeF es x=eb at*
       generalize twoF R S k x=tb at*
       cases eb
       all_goals
        refine wp_region_ext (by kernel_rfl) (by kernel_rfl) ?_
        repeat (go_big_quiet_step ((first
         |(go_at_call 169;exact Calls.ext_of (X1.out _))
         |(go_at_call 170;exact Calls.ext_of (X2.out _)))))
        refine wpQuiet_nil ?_
        rintro _ ⟨p4,rfl⟩
        have HB4:=Lib.hid (below_ext W8 p4)
        generalize ext W8 p4=w4 at HB4 ⊢
        go_wp2_with fail
        go_meet
        exact ⟨_,rfl,by rw [HMB.out];rfl,HB4.out⟩
      case rest=>
       obtain ⟨b,rfl,hbm,hzc⟩:=hcut
       have HZC:=Lib.hid (HZ8.out.st hzc)
       cases hm:madeB es R S k with
       |true=>
        rw [hm] at hbm
        have HA2:=Lib.hid (show ∀j,j<k+1→madeB es R S j=true from fun j hj=>by
         by_cases e:j=k
         ·rw [e];exact hm
         ·exact HA.out j (by omega))
        clear hm hzc
        subst hbm
        go_wp2
        go_roundg (S.length-(k+1))
        case measure=>omega
        case rel=>exact ⟨k+1,by omega,Nat.le_refl _,by go_num,HZC.out,HA2.out⟩
       |false=>
        rw [hm] at hbm
        have hm3:=HM2.out
        rw [firstBad_some hlt HA.out hm] at hm3
        have HM3:=Lib.hid hm3
        clear hm hzc hm3
        subst hbm
        go_wp2
        refine bodyPost_ret (v:=.tuple #[.int .i64 (k:Int),.bool false]) (by simp [results,Tryz.results111,go_sem];try rfl) rfl ?_
        exact .mk HM3.out (HB.out.st HZC.out)
     ·obtain rfl:k=S.length:=by omega
      have hm:=HM2.out
      rw [firstBad_none HA.out] at hm
      have HM3:=Lib.hid hm
      clear hm HM2
      go_wp2
      refine bodyPost_ret (v:=.tuple #[.int .i64 0,.bool true]) (by simp [results,Tryz.results111,go_sem];try rfl) rfl ?_
      exact .mk HM3.out (HB.out.st HZ.out)
end Go.Proofs.YteaaapdjplbljaaGreat
end
section
namespace Go.Proofs.YteaaapdjplbljaaGreat
open Go Go.Proofs Go.RowKit Go.Shelf Go.Proofs.YteaaapdjplbljaaGreat.Hp Go.Proofs.YteaaapdjplbljaaGreat.Ch
theorem rAt_rk {es:List EdgeD} {n:Nat} {R:List Int} {S:List SC} {out:List Int} (h:HierOK es n R S out) {v:Int} (hv:nodeN n v):rAt R v=rk out v:=by
 unfold rAt
 rw [List.getD_eq_getElem?_getD,h.at1 v hv]
 rfl
theorem big_n {n:Nat} (hn:n≤26):4294967296*2 ^ n≤(288230376151711744:Int):=by
 have h1:(2:Int) ^ n≤2 ^ 26:=by
  have:(2:Nat) ^ n≤2 ^ 26:=Nat.pow_le_pow_right (by decide) hn
  exact_mod_cast this
 have h2:(2:Int) ^ 26=67108864:=by decide
 omega
theorem wrapU_in {x:Int} (h:0≤x∧x≤18446744073709551615):wrapU x=x:=by
 unfold wrapU
 rw [IntKind.wrap_u64]
 omega
theorem made_built {es:List EdgeD} {n:Nat} {R:List Int} {S:List SC} {out:List Int} (h:HierOK es n R S out) (hn:n≤26):∀j,j<S.length→madeB es R S j=true:=by
 intro j hj
 have hb:=big_n hn
 have hd:S.getD j scZ=S[j]:=by rw [List.getD_eq_getElem?_getD,List.getElem?_eq_getElem hj];rfl
 have hx:=h.made j S[j] (List.getElem?_eq_getElem hj)
 have he:=h.ends S[j] (List.getElem_mem hj)
 have hbx:=h.big S[j] (List.getElem_mem hj)
 unfold madeB
 rw [hd,Bool.or_eq_true]
 generalize S[j]=x at*
 rcases hx with ⟨⟨h1,h2⟩,h3,h4,h5⟩|⟨h1,a,b,y,z,h2,h3,h4,h5,h6,h7,h8,h9,h10,h11,h12,h13⟩
 ·left
  unfold edgeF edgeB
  rw [h1,h4,h5]
  simp [h2,h3]
 ·right
  have hya:=List.mem_of_getElem? h6
  have hyz:=List.mem_of_getElem? h7
  have ey:=h.ends y hya
  unfold twoF pairF meetF scAt
  have e1:S.getD x.a.toNat scZ=y:=by rw [h2,Int.toNat_natCast,List.getD_eq_getElem?_getD,h6];rfl
  have e2:S.getD x.b.toNat scZ=z:=by rw [h3,Int.toNat_natCast,List.getD_eq_getElem?_getD,h7];rfl
  rw [e1,e2,h11,wrapU_in ⟨by omega,by omega⟩,rAt_rk h ey.2.1,rAt_rk h he.1,rAt_rk h he.2.1]
  have hmin:rk out y.t<min (rk out x.f) (rk out x.t):=by omega
  simp only [Bool.and_eq_true,decide_eq_true_eq,beq_iff_eq,Bool.not_eq_true',beq_eq_false_iff_ne]
  exact ⟨⟨⟨⟨h1,by omega,by omega⟩,by omega,by omega⟩,he.2.2.1⟩,⟨⟨⟨h8,h9⟩,h10⟩,trivial⟩,hmin⟩
theorem madeR_built {g:GD} {n:Nat} {R:List Int} {S:List SC} {out:List Int} (hg:rightG g=0) (hn:g.n=(n:Int)) (h:HierOK g.es n R S out) (hn26:n≤26):madeR g R S=(0,true):=by
 unfold madeR
 rw [if_neg (by simp [hg]),if_neg (by rw [h.rank,h.len,hn];simp),firstBad_none (made_built h hn26)]
end Go.Proofs.YteaaapdjplbljaaGreat
end
section
namespace Go.Proofs.YteaaapdjplbljaaGreat
open Go Go.Proofs Go.RowKit Go.Shelf Go.Proofs.YteaaapdjplbljaaGreat.Hp Go.Proofs.YteaaapdjplbljaaGreat.Ch
theorem one_int' {R:List Int}:∀u∈R.map encI,u.oneCell'=true:=fun u hu=>by obtain ⟨x,_,rfl⟩:=List.mem_map.1 hu;rfl
theorem one_flatS:∀{S:List SC},∀u∈flatS S,u.oneCell'=true
 |[],u,h=>by cases h
 |x::S,u,h=>by
  rw [flatS] at h
  rcases List.mem_append.1 h with h|h
  ·exact one_sc x u h
  ·exact one_flatS u h
theorem one_flat:∀{es:List EdgeD},∀u∈flat es,u.oneCell'=true
 |[],u,h=>by cases h
 |x::es,u,h=>by
  rw [flat] at h
  simp only [List.mem_cons] at h
  rcases h with rfl|rfl|rfl|h
  ·rfl
  ·rfl
  ·rfl
  ·exact one_flat u h
def CHPost (R:List Int) (S:List SC) (w:World) (e:Ending) (w':World):Prop:=
 ∃ao ca bo cb,e=.returned (.agg #[.slice ao R.length ca,.slice bo S.length cb])∧Cel w' ao (R.map encI)∧Cel w' bo (flatS S)∧Below w.heap.size w w'∧(∀k,(Value.slice ao R.length ca).ownBlock=some k→w.heap.size≤k)∧∀k,(Value.slice bo S.length cb).ownBlock=some k→w.heap.size≤k
theorem ch_next {w W w1 w2:World} {ro so:Option Addr} {rc sc:Nat} {R:List Int} {S:List SC} (hb:Below w1.heap.size w1 w2) (h:w1.cell? ⟨w.heap.size,0,none⟩=some (.slice ro R.length rc)∧w1.cell? ⟨w.heap.size,1,none⟩=some (.slice so S.length sc)∧w1.cell? ⟨w.heap.size+1,0,none⟩=some (.slice none 0 0)∧w1.cell? ⟨w.heap.size+1,1,none⟩=some (.slice none 0 0)∧w1.frozen? ⟨w.heap.size+1,0,none⟩=false∧w1.frozen? ⟨w.heap.size+1,1,none⟩=false∧w.heap.size+1<w1.heap.size∧Below W.heap.size W w1):w2.cell? ⟨w.heap.size,0,none⟩=some (.slice ro R.length rc)∧w2.cell? ⟨w.heap.size,1,none⟩=some (.slice so S.length sc)∧w2.cell? ⟨w.heap.size+1,0,none⟩=some (.slice none 0 0)∧w2.cell? ⟨w.heap.size+1,1,none⟩=some (.slice none 0 0)∧w2.frozen? ⟨w.heap.size+1,0,none⟩=false∧w2.frozen? ⟨w.heap.size+1,1,none⟩=false∧w.heap.size+1<w2.heap.size∧Below W.heap.size W w2:=by
 obtain ⟨c0,c1,c2,c3,z0,z1,hs,hz⟩:=h
 exact ⟨cell_later hb c0,cell_later hb c1,cell_later hb c2,cell_later hb c3,(hb.frozen (p:=⟨w.heap.size+1,0,none⟩) hs).trans z0,(hb.frozen (p:=⟨w.heap.size+1,1,none⟩) hs).trans z1,Nat.lt_of_lt_of_le hs hb.size,hz.st hb⟩
set_option maxRecDepth 100000 in
set_option maxHeartbeats 4000000 in
theorem cloneH_any (R:List Int) (S:List SC) (ro so:Option Addr) (rc sc:Nat) (w:World) (hr:Cel w ro (R.map encI)) (hS:Cel w so (flatS S)) (hrl:R.length≤1000000) (hsl:S.length≤1000000):
  Calls Tryz.prog 93 #[.agg #[.slice ro R.length rc,.slice so S.length sc]] w (CHPost R S w):=by
 obtain ⟨W,hW⟩:∃W,W=(w.alloc (Obj.cells #[.slice ro R.length rc,.slice so S.length sc] 81)).alloc (Obj.cells #[.slice none 0 0,.slice none 0 0] 81):=⟨_,rfl⟩
 have hbw:Below w.heap.size w W:=by rw [hW];exact (Below.of_al _ _).al _
 have HS0:=Lib.hid (show W.cell? ⟨w.heap.size,0,none⟩=some (.slice ro R.length rc)∧W.cell? ⟨w.heap.size,1,none⟩=some (.slice so S.length sc)∧W.cell? ⟨w.heap.size+1,0,none⟩=some (.slice none 0 0)∧W.cell? ⟨w.heap.size+1,1,none⟩=some (.slice none 0 0)∧W.frozen? ⟨w.heap.size+1,0,none⟩=false∧W.frozen? ⟨w.heap.size+1,1,none⟩=false∧w.heap.size+1<W.heap.size∧Below W.heap.size W W from ⟨by rw [hW];go_simp,by rw [hW];go_simp,by rw [hW];go_simp,by rw [hW];go_simp,by rw [hW];go_simp,by rw [hW];go_simp,by rw [hW];simp,Below.refl _ _⟩)
 have HC1:=Lib.hid (fun W' (hb:Below W.heap.size W W')=>cloneI_any R.length (R.map encI) ro rc W' (by simp) ((hr.go hbw).go hb) one_int' hrl)
 have HC2:=Lib.hid (fun W' (hb:Below W.heap.size W W')=>cloneS_any S.length (flatS S) so sc W' (flatS_len S) ((hS.go hbw).go hb) one_flatS hsl)
 have HB:=Lib.hid hbw
 have HW:=Lib.hid hW
 unfold CloPost at HC1 HC2
 clear hW hbw hr hS
 go_enter Tryz.func93,Tryz.ntmps93
 go_upto_region 1 with (fail)
 rw [←HW.out]
 obtain ⟨e0,e1,e2,e3,e4,e5,e6,-⟩:=HS0.out
 go_region_with (first
  |(go_at_call 67;refine (HC1.out _ (Below.refl _ W).drew).mono ?_;rintro e w3 ⟨a1,c1,rfl,h1,hb1,hf1⟩;(have HS3:=Lib.hid (ch_next hb1 (ch_next (Below.refl _ W).drew HS0.out)));(obtain ⟨f0,f1,f2,f3,f4,f5,f6,-⟩:=HS3.out);(have H1:=Lib.hid (And.intro h1 (And.intro hf1 hb1)));clear h1 hf1 hb1)
  |(go_at_call 150;refine (HC2.out _ HS3.out.2.2.2.2.2.2.2).mono ?_;rintro e w4 ⟨a2,c2,rfl,h2,hb2,hf2⟩;(have HS4:=Lib.hid (ch_next hb2 HS3.out));(obtain ⟨g0,g1,g2,g3,g4,g5,g6,-⟩:=HS4.out);(have H2:=Lib.hid (And.intro h2 (And.intro hf2 hb2)));clear h2 hf2 hb2))
 all_goals
  go_wp2_with fail
  obtain ⟨r0,r1⟩:=h2_read (.slice a1 R.length c1) (.slice a2 S.length c2) g2 g3
  refine bodyPost_ret (v:=.agg #[.slice a1 R.length c1,.slice a2 S.length c2]) (by simp [results,Tryz.results93,go_sem,r0,r1];try rfl) rfl ?_
  obtain ⟨h1,hf1,hb1⟩:=H1.out
  obtain ⟨h2,hf2,hb2⟩:=H2.out
  have hW1:W.heap.size=W.drew.heap.size:=rfl
  have hsz1:=hb1.size
  have hsz0:=HB.out.size
  have ho:OffX (· =w.heap.size+1) w4 ((w4.setCell ⟨w.heap.size+1,0,none⟩ (.slice a1 R.length c1)).setCell ⟨w.heap.size+1,1,none⟩ (.slice a2 S.length c2)):=
   (show OffX (· =w.heap.size+1) w4 (w4.setCell ⟨w.heap.size+1,0,none⟩ (.slice a1 R.length c1)) from .set _ rfl).trans (.set _ rfl)
  have hb4:Below w.heap.size w w4:=HB.out.trans (HS4.out.2.2.2.2.2.2.2.mono (by omega))
  exact ⟨a1,c1,a2,c2,rfl,cel_off (h1.go hb2) ho (fun k hk e=>by have:=hf1 k hk;have e2:k=w.heap.size+1:=e;omega),cel_off h2 ho (fun k hk e=>by have:=hf2 k hk;have e2:k=w.heap.size+1:=e;omega),hb4.trans (ho.below hb4.size (fun k hk=>by have e2:k=w.heap.size+1:=hk;omega)),fun k hk=>by have:=hf1 k hk;omega,fun k hk=>by have:=hf2 k hk;omega⟩
def CGPost (n:Int) (es:List EdgeD) (w:World) (e:Ending) (w':World):Prop:=
 ∃ao ca,e=.returned (.agg #[.int .i64 n,.slice ao es.length ca])∧Cel w' ao (flat es)∧Below w.heap.size w w'∧∀k,(Value.slice ao es.length ca).ownBlock=some k→w.heap.size≤k
theorem cg_next {w W w1 w2:World} {ao:Option Addr} {cap:Nat} {n:Int} {es:List EdgeD} (hb:Below w1.heap.size w1 w2) (h:w1.cell? ⟨w.heap.size,0,none⟩=some (.int .i64 n)∧w1.cell? ⟨w.heap.size,1,none⟩=some (.slice ao es.length cap)∧w1.cell? ⟨w.heap.size+1,0,none⟩=some (.int .i64 0)∧w1.cell? ⟨w.heap.size+1,1,none⟩=some (.slice none 0 0)∧w1.frozen? ⟨w.heap.size+1,0,none⟩=false∧w1.frozen? ⟨w.heap.size+1,1,none⟩=false∧w.heap.size+1<w1.heap.size∧Below W.heap.size W w1):w2.cell? ⟨w.heap.size,0,none⟩=some (.int .i64 n)∧w2.cell? ⟨w.heap.size,1,none⟩=some (.slice ao es.length cap)∧w2.cell? ⟨w.heap.size+1,0,none⟩=some (.int .i64 0)∧w2.cell? ⟨w.heap.size+1,1,none⟩=some (.slice none 0 0)∧w2.frozen? ⟨w.heap.size+1,0,none⟩=false∧w2.frozen? ⟨w.heap.size+1,1,none⟩=false∧w.heap.size+1<w2.heap.size∧Below W.heap.size W w2:=by
 obtain ⟨c0,c1,c2,c3,z0,z1,hs,hz⟩:=h
 exact ⟨cell_later hb c0,cell_later hb c1,cell_later hb c2,cell_later hb c3,(hb.frozen (p:=⟨w.heap.size+1,0,none⟩) hs).trans z0,(hb.frozen (p:=⟨w.heap.size+1,1,none⟩) hs).trans z1,Nat.lt_of_lt_of_le hs hb.size,hz.st hb⟩
set_option maxRecDepth 100000 in
set_option maxHeartbeats 4000000 in
theorem cloneG_any (n:Int) (es:List EdgeD) (ao:Option Addr) (cap:Nat) (w:World) (hc:Cel w ao (flat es)) (hl:es.length≤1000000):
  Calls Tryz.prog 112 #[gV n ao es.length cap] w (CGPost n es w):=by
 obtain ⟨W,hW⟩:∃W,W=(w.alloc (Obj.cells #[.int .i64 n,.slice ao es.length cap] 24)).alloc (Obj.cells #[.int .i64 0,.slice none 0 0] 24):=⟨_,rfl⟩
 have hbw:Below w.heap.size w W:=by rw [hW];exact (Below.of_al _ _).al _
 have HS0:=Lib.hid (show W.cell? ⟨w.heap.size,0,none⟩=some (.int .i64 n)∧W.cell? ⟨w.heap.size,1,none⟩=some (.slice ao es.length cap)∧W.cell? ⟨w.heap.size+1,0,none⟩=some (.int .i64 0)∧W.cell? ⟨w.heap.size+1,1,none⟩=some (.slice none 0 0)∧W.frozen? ⟨w.heap.size+1,0,none⟩=false∧W.frozen? ⟨w.heap.size+1,1,none⟩=false∧w.heap.size+1<W.heap.size∧Below W.heap.size W W from ⟨by rw [hW];go_simp,by rw [hW];go_simp,by rw [hW];go_simp,by rw [hW];go_simp,by rw [hW];go_simp,by rw [hW];go_simp,by rw [hW];simp,Below.refl _ _⟩)
 have HC1:=Lib.hid (fun W' (hb:Below W.heap.size W W')=>cloneE_any es.length (flat es) ao cap W' (flat_length es) ((hc.go hbw).go hb) one_flat hl)
 have HB:=Lib.hid hbw
 have HW:=Lib.hid hW
 unfold CloPost at HC1
 clear hW hbw hc
 go_enter Tryz.func112,Tryz.ntmps112
 go_upto_region 1 with (fail)
 rw [←HW.out]
 obtain ⟨e0,e1,e2,e3,e4,e5,e6,-⟩:=HS0.out
 go_region_with (go_at_call 171;refine (HC1.out _ (Below.refl _ W).drew).mono ?_;rintro e w3 ⟨a1,c1,rfl,h1,hb1,hf1⟩;(have HS3:=Lib.hid (cg_next hb1 (cg_next (Below.refl _ W).drew HS0.out)));(obtain ⟨f0,f1,f2,f3,f4,f5,f6,-⟩:=HS3.out);(have H1:=Lib.hid (And.intro h1 (And.intro hf1 hb1)));clear h1 hf1 hb1)
 all_goals
  go_wp2_with fail
  obtain ⟨r0,r1⟩:=h2_read (.int .i64 n) (.slice a1 es.length c1) f2 f3
  refine bodyPost_ret (v:=.agg #[.int .i64 n,.slice a1 es.length c1]) (by simp [results,Tryz.results112,go_sem,r0,r1];try rfl) rfl ?_
  obtain ⟨h1,hf1,hb1⟩:=H1.out
  have hW1:W.heap.size=W.drew.heap.size:=rfl
  have hsz1:=hb1.size
  have hsz0:=HB.out.size
  have ho:OffX (· =w.heap.size+1) w3 ((w3.setCell ⟨w.heap.size+1,0,none⟩ (.int .i64 n)).setCell ⟨w.heap.size+1,1,none⟩ (.slice a1 es.length c1)):=
   (show OffX (· =w.heap.size+1) w3 (w3.setCell ⟨w.heap.size+1,0,none⟩ (.int .i64 n)) from .set _ rfl).trans (.set _ rfl)
  have hb4:Below w.heap.size w w3:=HB.out.trans (HS3.out.2.2.2.2.2.2.2.mono (by omega))
  exact ⟨a1,c1,rfl,cel_off h1 ho (fun k hk e=>by have:=hf1 k hk;have e2:k=w.heap.size+1:=e;omega),hb4.trans (ho.below hb4.size (fun k hk=>by have e2:k=w.heap.size+1:=hk;omega)),fun k hk=>by have:=hf1 k hk;omega⟩
end Go.Proofs.YteaaapdjplbljaaGreat
end
