/- The law UnpackEdges. -/
import Derived.Test.YtkdomobedfhhgaaGreatProg
import Derived.Test.YtkdomobedfhhgaaGreatSm03
import Derived.Test.YtkdomobedfhhgaaGreatSm05
import Derived.Test.YtkdomobedfhhgaaGreatSm06
import Derived.Test.YtkdomobedfhhgaaGreatSm09
import Derived.Test.YtkdomobedfhhgaaGreatSm13
import Derived.Test.YtkdomobedfhhgaaGreatSm14
import Derived.Test.YtkdomobedfhhgaaGreatSm07
set_option linter.unusedVariables false
set_option linter.unusedSimpArgs false
set_option linter.unnecessarySimpa false
namespace Go.Proofs.YtkdomobedfhhgaaGreat
open Go Go.Proofs Go.RowKit Go.Shelf Go.Proofs.YtkdomobedfhhgaaGreat.Hp Go.Proofs.YtkdomobedfhhgaaGreat.Ch
theorem madeR_true {g:GD} {R:List Int} {S:List SC} (h:(madeR g R S).2=true):madeR g R S=(0,true):=by
 unfold madeR at h ⊢
 split
 ·rename_i k;rw [if_pos k] at h;cases h
 ·rename_i k
  rw [if_neg k] at h
  split
  ·rename_i k2;rw [if_pos k2] at h;cases h
  ·rename_i k2
   rw [if_neg k2] at h
   cases hb:firstBad g.es R S with
   |some i=>rw [hb] at h;cases h
   |none=>rfl
def wantF (S:List SC) (l:List Int):List Int:=l.flatMap fun v=>if inS S v then unL S v.toNat else []
theorem wantF_step {S:List SC} {l:List Int} {k:Nat} (h:k<l.length):wantF S (l.take (k+1))=wantF S (l.take k)++(if inS S l[k] then unL S l[k].toNat else []):=by
 unfold wantF
 rw [List.take_succ_eq_append_getElem h,List.flatMap_append]
 simp
theorem wantF_all {S:List SC}:∀{l:List Int},l.all (inS S)=true→wantF S l=unA S l
 |[],_=>rfl
 |x::r,h=>by
  rw [List.all_cons,Bool.and_eq_true] at h
  show (if inS S x then unL S x.toNat else [])++wantF S r=unL S x.toNat++unA S r
  rw [if_pos h.1,wantF_all h.2]
theorem wantF_len {S:List SC} (h4:∀i,i<S.length→(unL S i).length≤4096):∀(l:List Int),(wantF S l).length≤4096*l.length
 |[]=>Nat.zero_le _
 |x::r=>by
  have e:wantF S (x::r)=(if inS S x then unL S x.toNat else [])++wantF S r:=rfl
  have h2:=wantF_len h4 r
  rw [e,List.length_append,List.length_cons,Nat.mul_add,Nat.mul_one]
  split
  ·rename_i hx
   have:=h4 x.toNat (by have:=inS_iff.1 hx;omega)
   omega
  ·simp only [List.length_nil]
   omega
theorem all_step {S:List SC} {l:List Int} {k:Nat} (h:k<l.length):(l.take (k+1)).all (inS S)=((l.take k).all (inS S)&&inS S l[k]):=by
 rw [List.take_succ_eq_append_getElem h,List.all_append]
 simp
theorem unM_le2 {S:List SC} {c:Nat}:∀(l:List Int),(∀v∈l,unW S v≤c)→unM S l≤c*l.length
 |[],_=>Nat.zero_le _
 |a::r,h=>by
  have h1:=h a (List.mem_cons_self ..)
  have h2:=unM_le2 r (fun v hv=>h v (List.mem_cons_of_mem _ hv))
  have e:unM S (a::r)=unW S a+unM S r:=by simp [unM]
  rw [e,List.length_cons,Nat.mul_add,Nat.mul_one]
  omega
theorem unM_few {S:List SC} (h4:∀i,i<S.length→(unL S i).length≤4096) {l:List Int} (hl:l.length≤9):unM S l≤200000:=by
 have:=unM_le2 (S:=S) (c:=8192) l (fun v hv=>by
  unfold unW
  split
  ·rename_i hx
   have:=h4 v.toNat (by have:=inS_iff.1 hx;omega)
   omega
  ·omega)
 have h8:8192*l.length≤8192*9:=Nat.mul_le_mul_left _ hl
 omega
theorem made_all {g:GD} {n:Nat} {R:List Int} {S:List SC} (h:madeR g R S=(0,true)) (hgn:g.n=(n:Int)) (hn:n≤12) (he:g.es.length≤40) (hs:S.length≤24):
  rightG g=0∧R.length=n∧FedS S∧(∀i,i<S.length→(unL S i).length≤4096)∧(∀x∈S,-1≤x.e∧x.e≤1000000∧-1≤x.a∧x.a≤1000000∧-1≤x.b∧x.b≤1000000)∧∀x∈S,nodeN n x.f∧nodeN n x.t:=by
 obtain ⟨hg,hl,hr,hm⟩:=made_parts h
 have hln:R.length=n:=by omega
 have hn0:0<n:=by have:=(right_n hg).1;omega
 have hin:=rAt_in hr hln hn0
 refine ⟨hg,hln,made_fed hm,fun i hi=>?_,made_bnd hm (by omega) (by omega),fun x hx=>?_⟩
 ·have:=made_len hm (fun v=>(hin v).1) i hi 12 (.inl (by have:=(hin (S.getD i scZ).f).2;omega))
  simpa using this
 ·obtain ⟨j,hj,rfl⟩:=List.getElem_of_mem hx
  have:=made_nodes (edges_ok hg hgn) (Nat.le_refl _) hm j hj
  rwa [List.getD_eq_getElem?_getD,List.getElem?_eq_getElem hj] at this
def weR (hv lv p:Value) (k x:Int) (L u:List Int):Nat→Value→World→Prop
 |0,v,W=>RowI L v W
 |1,v,_=>v=hv
 |2,v,_=>v=lv
 |3,v,_=>v=.int .i64 k
 |4,v,_=>v=p
 |5,v,_=>v=.int .i64 x
 |6,v,W=>RowI u v W
 |7,v,W=>RowI (L++u) v W
 |8,v,W=>RowI (L++u) v W
 |_,_,_=>True
theorem weR_go {hv lv p:Value} {k x:Int} {L u:List Int}:∀(j:Nat) (v:Value) (w w':World),Below w.heap.size w w'→weR hv lv p k x L u j v w→weR hv lv p k x L u j v w'
 |1,_,_,_,_,h|2,_,_,_,_,h|3,_,_,_,_,h|4,_,_,_,_,h|5,_,_,_,_,h=>h
 |0,_,_,_,hb,h|6,_,_,_,hb,h|7,_,_,_,hb,h|8,_,_,_,hb,h=>RowI.go h hb
 |_+9,_,_,_,_,_=>trivial
theorem unM_sing {S:List SC} (h4:∀i,i<S.length→(unL S i).length≤4096) (i:Int):unM S [i]≤200000:=unM_few h4 (l:=[i]) (by simp)
theorem un_edges_no {S:List SC} {i:Int} {w w':World} {e:Ending} (hi:inS S i=false) (h:UnAllPost S [i] w e w'):e=.returned (.tuple #[.slice none 0 0,.bool false])∧Below w.heap.size w w':=by
 obtain ⟨v,b,out,rfl,k1,k2,k3,k4⟩:=h
 simp only [List.all_cons,List.all_nil,Bool.and_true,hi] at k3
 subst k3
 rcases k4 with ⟨k,_⟩|⟨_,_,rfl⟩
 ·cases k
 ·exact ⟨rfl,k2⟩
structure QE1 (W:World) (b:Nat) (g:GD) (ao:Option Addr) (cap:Nat) (R:List Int) (ro:Option Addr) (rc:Nat) (S:List SC) (so:Option Addr) (sc:Nat):Prop where
 g0:W.cell? ⟨b,0,none⟩=some (.int .i64 g.n)
 g1:W.cell? ⟨b,1,none⟩=some (.slice ao g.es.length cap)
 a0:W.cell? ⟨b+1,0,none⟩=some (.slice ro R.length rc)
 a1:W.cell? ⟨b+1,1,none⟩=some (.slice so S.length sc)
theorem QE1.go {W W':World} {b:Nat} {g:GD} {ao:Option Addr} {cap:Nat} {R:List Int} {ro:Option Addr} {rc:Nat} {S:List SC} {so:Option Addr} {sc:Nat} (h:QE1 W b g ao cap R ro rc S so sc) (hz:Below W.heap.size W W'):QE1 W' b g ao cap R ro rc S so sc:=
 ⟨cell_later hz h.g0,cell_later hz h.g1,cell_later hz h.a0,cell_later hz h.a1⟩
set_option maxRecDepth 100000 in
set_option maxHeartbeats 4000000 in
theorem UnpackEdges_any (g:GD) (ao:Option Addr) (cap:Nat) (ro:Option Addr) (R:List Int) (rc:Nat) (so:Option Addr) (S:List SC) (sc:Nat) (lo:Option Addr) (l:List Int) (lc:Nat) (i:Int) (w:World) (hc:Cel w ao (flat g.es)) (hr:Cel w ro (R.map encI)) (hS:Cel w so (flatS S)) (hl:Cel w lo (l.map encI)) (hsc:S.length≤sc):
  Calls Tryz.prog 11 #[.agg #[.int .i64 g.n,.slice ao g.es.length cap],.agg #[.slice ro R.length rc,.slice so S.length sc],.slice lo l.length lc,.int .i64 i] w fun e w'=>e=.returned (.bool true)∧Below w.heap.size w w':=by
 obtain ⟨V,hV⟩:∃V,V=(w.alloc (Obj.cells #[.int .i64 g.n,.slice ao g.es.length cap] 24)).alloc (Obj.cells #[.slice ro R.length rc,.slice so S.length sc] 45):=⟨_,rfl⟩
 have hbV:Below w.heap.size w V:=by rw [hV];exact (Below.of_al _ _).al _
 have HQ:=Lib.hid (show QE1 V w.heap.size g ao cap R ro rc S so sc by rw [hV];constructor<;>go_simp)
 have HAL:=Lib.hid alive24_any
 have HLI:=Lib.hid (light20_any g.n g.es ao cap V)
 have HB:=Lib.hid hbV
 have HV:=Lib.hid hV
 obtain ⟨p0,p1,p2,p3⟩:=HQ.out
 have HCS:=Lib.hid (And.intro (hc.go hbV) (And.intro (hr.go hbV) (And.intro (hS.go hbV) (hl.go hbV))))
 clear hbV hV hc hr hS hl
 cases hli:light20 g.n g.es with
 |false=>
  rw [hli] at HLI
  clear hli
  go_enter Tryz.func11,Tryz.ntmps11
  go_upto_region 1 with (fail)
  rw [←HV.out]
  go_wp2_with (first
   |(go_at_call 14;refine HLI.out.mono ?_;rintro e w1 ⟨rfl,hb1⟩;(have HB1:=Lib.hid (HB.out.st hb1));clear hb1)
   |(go_at_call 47;refine (HAL.out _).mono ?_;rintro e w2 ⟨rfl,hb2⟩;(have HB2:=Lib.hid (HB1.out.st hb2));clear hb2))
  go_ret
  exact ⟨rfl,HB2.out⟩
 |true=>
  obtain ⟨hg,hes⟩:=light20_small hli
  have HG:=Lib.hid hg
  rw [hli] at HLI
  clear hli hg
  by_cases hbig:(60:Int)<(R.length:Int)
  ·go_enter Tryz.func11,Tryz.ntmps11
   go_upto_region 1 with (fail)
   rw [←HV.out]
   go_wp2_with (first
    |(go_at_call 14;refine HLI.out.mono ?_;rintro e w1 ⟨rfl,hb1⟩;(have HB1:=Lib.hid (HB.out.st hb1));(have k2:=cell_later hb1 p2);clear hb1)
    |(go_at_call 47;refine (HAL.out _).mono ?_;rintro e w2 ⟨rfl,hb2⟩;(have HB2:=Lib.hid (HB1.out.st hb2));clear hb2))
   go_ret
   exact ⟨rfl,HB2.out⟩
  ·by_cases hbig2:(24:Int)<(S.length:Int)
   ·go_enter Tryz.func11,Tryz.ntmps11
    go_upto_region 1 with (fail)
    rw [←HV.out]
    go_wp2_with (first
     |(go_at_call 14;refine HLI.out.mono ?_;rintro e w1 ⟨rfl,hb1⟩;(have HB1:=Lib.hid (HB.out.st hb1));(have k2:=cell_later hb1 p2);(have k3:=cell_later hb1 p3);clear hb1)
     |(go_at_call 47;refine (HAL.out _).mono ?_;rintro e w2 ⟨rfl,hb2⟩;(have HB2:=Lib.hid (HB1.out.st hb2));clear hb2))
    go_ret
    exact ⟨rfl,HB2.out⟩
   ·by_cases hbig3:(9:Int)<(l.length:Int)
    ·go_enter Tryz.func11,Tryz.ntmps11
     go_upto_region 1 with (fail)
     rw [←HV.out]
     go_wp2_with (first
      |(go_at_call 14;refine HLI.out.mono ?_;rintro e w1 ⟨rfl,hb1⟩;(have HB1:=Lib.hid (HB.out.st hb1));(have k2:=cell_later hb1 p2);(have k3:=cell_later hb1 p3);clear hb1)
      |(go_at_call 47;refine (HAL.out _).mono ?_;rintro e w2 ⟨rfl,hb2⟩;(have HB2:=Lib.hid (HB1.out.st hb2));clear hb2))
     go_ret
     exact ⟨rfl,HB2.out⟩
    ·have hR6:R.length≤60:=by omega
     have hS24:S.length≤24:=by omega
     have hl9:l.length≤9:=by omega
     obtain ⟨n,hn⟩:∃n:Nat,n=g.n.toNat:=⟨_,rfl⟩
     have hgn:g.n=(n:Int)∨rightG g≠0:=by
      by_cases h0:rightG g=0
      ·have:=right_n h0
       exact .inl (by omega)
      ·exact .inr h0
     have HMD:=Lib.hid (fun W (hz:Below V.heap.size V W)=>refMade_any g n R S ao ro so cap rc sc W hgn (HCS.out.1.go hz) (HCS.out.2.1.go hz) (HCS.out.2.2.1.go hz) (by omega) (by omega) (by omega) hsc)
     unfold MadePost at HMD
     cases hmd:(madeR g R S).2 with
     |false=>
      have HNB:=Lib.hid (fun W (hz:Below V.heap.size V W)=>new_bad g n R S ao ro so cap rc sc W hgn (HCS.out.1.go hz) (HCS.out.2.1.go hz) (HCS.out.2.2.1.go hz) (by omega) (by omega) (by omega) hsc hmd)
      rw [hmd] at HMD
      generalize (madeR g R S).1=mi at*
      clear hmd hgn hn
      go_enter Tryz.func11,Tryz.ntmps11
      go_upto_region 1 with (fail)
      rw [←HV.out]
      go_upto_region 8 with (first
       |(go_at_call 14;refine HLI.out.mono ?_;rintro e w1 ⟨rfl,hb1⟩;(have HB1:=Lib.hid hb1);(obtain ⟨x0,x1,x2,x3⟩:=HQ.out.go hb1);clear hb1)
       |(go_at_call 54;refine (HNB.out _ HB1.out).mono ?_;rintro e w2 ⟨⟨k,hk,rfl⟩,hb2⟩;(have hk1:(k != 0)=true:=by simpa using hk);(have HB2:=Lib.hid (HB1.out.st hb2));(have y0:=cell_later hb2 x0);(have y1:=cell_later hb2 x1);(have y2:=cell_later hb2 x2);(have y3:=cell_later hb2 x3);clear hb2 hk x0 x1 x2 x3)
       |(go_at_call 55;refine (HMD.out _ HB2.out).mono ?_;rintro e w3 ⟨rfl,hb3⟩;(have HB3:=Lib.hid (HB2.out.st hb3));clear hb3)
       |(go_at_call 49;refine (unEdges_nil _ _).mono ?_;rintro e w4 ⟨rfl,hb4⟩;(have HB4:=Lib.hid (HB3.out.st hb4));clear hb4)
       |(go_at_call 56;refine (unDepth_nil _ _).mono ?_;rintro e w5 ⟨rfl,hb5⟩;(have HB5:=Lib.hid (HB4.out.st hb5));clear hb5))
      go_wp2_with (go_at_call 47;refine (HAL.out _).mono ?_;rintro e w6 ⟨rfl,hb6⟩;(have HB6:=Lib.hid (HB5.out.st hb6));clear hb6)
      go_ret
      exact ⟨rfl,HB.out.st HB6.out⟩
     |true=>
      have hm:=madeR_true hmd
      have hgz:rightG g=0:=(made_parts hm).1
      have hgn':g.n=(n:Int):=hgn.resolve_right (fun h=>h hgz)
      have hn12:n≤12:=by have:=HG.out hgz;omega
      obtain ⟨-,hRn,hF,h4,h9,hends⟩:=made_all hm hgn' hn12 hes hS24
      rw [hm] at HMD
      simp only at HMD
      obtain ⟨gn,es⟩:=g
      simp only at hgn' hes
      subst hgn'
      have HNW:=Lib.hid (fun W (hz:Below V.heap.size V W)=>new_ok n es R S ao ro so cap rc sc W (HCS.out.1.go hz) (HCS.out.2.1.go hz) (HCS.out.2.2.1.go hz) (by omega) (by omega) (by omega) (by omega) hsc hends hRn hm)
      unfold NewPost at HNW
      have HF:=Lib.hid hF
      have H4:=Lib.hid h4
      have H9:=Lib.hid h9
      clear hmd hgn hn hm hgz hF h4 h9 hends hRn hn12
      go_enter Tryz.func11,Tryz.ntmps11
      go_upto_region 1 with (fail)
      rw [←HV.out]
      go_upto_region 9 with (first
       |(go_at_call 14;refine HLI.out.mono ?_;rintro e w1 ⟨rfl,hb1⟩;(have HB1:=Lib.hid hb1);(obtain ⟨x0,x1,x2,x3⟩:=HQ.out.go hb1);clear hb1)
       |(go_at_call 54;refine (HNW.out _ HB1.out).mono ?_;rintro e w2 ⟨hb,rfl,hH,hb2⟩;(have HH:=Lib.hid hH);(have HB2:=Lib.hid (HB1.out.st hb2));(have y0:=cell_later hb2 x0);(have y1:=cell_later hb2 x1);(have y2:=cell_later hb2 x2);(have y3:=cell_later hb2 x3);clear hb2 hH x0 x1 x2 x3)
       |(go_at_call 55;refine (HMD.out _ HB2.out).mono ?_;rintro e w3 ⟨rfl,hb3⟩;(have HB3:=Lib.hid (HB2.out.st hb3));(have z2:=cell_later hb3 y2);(have z3:=cell_later hb3 y3);(have HH3:=Lib.hid (HH.out.go hb3));clear hb3))
      have HLC:=Lib.hid (HCS.out.2.2.2.go HB3.out)
      have HSC:=Lib.hid (HCS.out.2.2.1.go HB3.out)
      have HBV:=Lib.hid (HB.out.st HB3.out)
      have HL9:=Lib.hid hl9
      have HS24:=Lib.hid hS24
      clear HNW HMD HLI HQ HCS HV y0 y1 y2 y3 hbig hbig2 hbig3 hes hR6 p0 p1 p2 p3
      go_wp2
      go_loopg [17,18,19] l.length (fun gg v17 v18 v19 wr=>∃(k:Nat) (L:List Int) (a:Option Addr) (c:Nat),k≤l.length∧l.length-k≤gg∧v19=.int .i64 k∧v18=.bool ((l.take k).all (inS S))∧v17=.slice a L.length c∧Aside (Cel wr a (L.map encI))∧Aside (L=wantF S (l.take k))∧Aside (Below w3.heap.size w3 wr))
      case atStart=>exact ⟨0,[],none,0,Nat.zero_le _,by omega,rfl,rfl,rfl,Cel.nil _ _,rfl,Below.refl _ _⟩
      case round=>
       obtain ⟨k,L,la,lca,hk,hgg,rfl,rfl,rfl,hcl,hLL,hbr⟩:=hrel
       have HBr:=Lib.hid hbr.out
       have HCL:=Lib.hid hcl.out
       have HLL:=Lib.hid hLL.out
       have u2:=cell_later HBr.out z2
       have u3:=cell_later HBr.out z3
       clear hcl hLL hbr
       by_cases hlt:k<l.length
       ·have hlt3:(k:Int)<(l.length:Int):=by omega
        have hk0:(0:Int)≤(k:Int):=by omega
        obtain ⟨lb,lof,e,y9⟩:=(HLC.out.go HBr.out).at hlt
        subst e
        have HWS:=Lib.hid (wantF_step (S:=S) hlt)
        have HAS:=Lib.hid (all_step (S:=S) hlt)
        generalize l[k]=x at*
        rw [←HLL.out] at HWS
        have HLN:=Lib.hid (show L.length≤40960 by
         have h1:=wantF_len H4.out (l.take k)
         have h2:=HL9.out
         rw [←HLL.out,List.length_take] at h1
         omega)
        generalize (l.take k).all (inS S)=bk at*
        have e9:=fun p=>cell_ext p y9
        have e3:=fun p=>cell_ext p u3
        cases hx:inS S x with
        |true=>
         obtain ⟨hx0,hx1⟩:=inS_iff.1 hx
         obtain ⟨j,rfl⟩:∃j:Nat,x=(j:Int):=⟨x.toNat,by omega⟩
         have hj:j<S.length:=by omega
         rw [hx,if_pos rfl,Int.toNat_natCast] at HWS
         rw [hx,Bool.and_true] at HAS
         have hd0:decide ((j:Int)<0)=false:=by rw [decide_eq_false_iff_not];omega
         have hd1:decide ((S.length:Int)≤(j:Int))=false:=by rw [decide_eq_false_iff_not];omega
         have HHJ:=Lib.hid (And.intro hx0 hx1)
         clear hx hx0 hx1
         go_upto_region 14 with (fail)
         refine wp_region_ext (by kernel_rfl) (by kernel_rfl) ?_
         repeat (go_big_quiet_step ((fail)))
         refine wpQuiet_nil ?_
         rintro _ ⟨ps,rfl⟩
         have HBs:=Lib.hid (below_ext wr ps)
         generalize ext wr ps=ws at HBs ⊢
         have q9:=cell_later HBs.out y9
         have q2:=cell_later HBs.out u2
         have q3:=cell_later HBs.out u3
         have HBR:=Lib.hid (HBr.out.st HBs.out)
         have HUE:=Lib.hid (fun W (hz:Below ws.heap.size ws W)=>refUnE_any R S HF.out ro so rc sc H4.out (by have:=HS24.out;omega) j hj W (HSC.out.go (HBR.out.st hz)))
         unfold UrPost at HUE
         have HUL:=Lib.hid (H4.out j hj)
         have HCS2:=Lib.hid (HCL.out.go HBs.out)
         generalize unL S j=u at*
         have HJ:=Lib.hid (fun va vb W' (h1:RowI L va W') (h2:RowI u vb W')=>(show Calls Tryz.prog 57 #[va,vb] W' (fun e w'=>∃v,e=.returned v∧RowI (L++u) v w'∧Below W'.heap.size W' w') by
          obtain ⟨aa,ca,rfl,ha⟩:=h1
          obtain ⟨ab,cb,rfl,hb⟩:=h2
          refine (refJoin_any aa ab ca cb L u W' (by have:=HLN.out;omega) (by have:=HUL.out;omega) ha hb).mono ?_
          rintro e w' ⟨ao',cap',rfl,h3,h4⟩
          exact ⟨_,rfl,⟨_,_,rfl,h3⟩,h4⟩))
         clear y9 u2 u3 e9 e3 HBs HCL
         go_upto_region 16 with (fail)
         refine wp_region_grows_s 8 _ rfl rfl (fun i v _ w=>weR (.agg #[.slice ro R.length rc,.slice so S.length sc]) (.slice (some ⟨lb,lof,none⟩) l.length lc) (.pointer (some ⟨lb,lof+k,none⟩)) (k:Int) (j:Int) L u i v w) (by kernel_rfl) (by kernel_rfl) (by kernel_rfl) (fun i v _ w w' h k=>weR_go i v w w' h k) ?_ ?_
         ·refine ⟨?_,?_,?_,?_,?_,?_,?_,?_,trivial⟩
          ·intro act gs w' hbe hd hdis ho K hK
           have g17:act.tmps.getD 17 undef=.slice la L.length lca:=ho 17 (by kernel_rfl)
           refine .inl ⟨goes_free rfl,?_⟩
           simp [Oper.wp,execOp,Oper.upon,go_sem,Act.eval,g17]
           exact hK _ [] w' (Below.refl _ _) ⟨_,_,rfl,HCS2.out.go hbe⟩ (fun _ h=>nomatch h)
          ·intro act gs w' hbe hd hdis ho K hK
           have g5:act.tmps.getD 5 undef=.pointer (some ⟨w.heap.size+1,0,none⟩):=ho 5 (by kernel_rfl)
           have f0:=cell_later hbe q2
           have f1:=cell_later hbe q3
           refine .inl ⟨goes_free rfl,?_⟩
           simp [Oper.wp,execOp,Oper.upon,go_sem,Act.eval,g5,f0,f1]
           exact hK _ [] w' (Below.refl _ _) rfl (fun _ h=>nomatch h)
          ·intro act gs w' hbe hd hdis ho K hK
           have g2:act.tmps.getD 2 undef=.slice (some ⟨lb,lof,none⟩) l.length lc:=ho 2 (by kernel_rfl)
           refine .inl ⟨goes_free rfl,?_⟩
           simp [Oper.wp,execOp,Oper.upon,go_sem,Act.eval,g2]
           exact hK _ [] w' (Below.refl _ _) rfl (fun _ h=>nomatch h)
          ·intro act gs w' hbe hd hdis ho K hK
           have g19:act.tmps.getD 19 undef=.int .i64 (k:Int):=ho 19 (by kernel_rfl)
           refine .inl ⟨goes_free rfl,?_⟩
           simp [Oper.wp,execOp,Oper.upon,go_sem,Act.eval,g19]
           exact hK _ [] w' (Below.refl _ _) rfl (fun _ h=>nomatch h)
          ·intro act gs w' hbe hd hdis ho K hK
           have e1:act.tmps.getD 130 undef=.slice (some ⟨lb,lof,none⟩) l.length lc:=hd 2 (by rfl)
           have e2:act.tmps.getD 131 undef=.int .i64 (k:Int):=hd 3 (by rfl)
           refine .inl ⟨goes_free rfl,?_⟩
           simp [Oper.wp,execOp,Oper.upon,go_sem,Act.eval,e1,e2,hlt]
           exact hK _ [] w' (Below.refl _ _) rfl (fun _ h=>nomatch h)
          ·intro act gs w' hbe hd hdis ho K hK
           have e1:act.tmps.getD 132 undef=.pointer (some ⟨lb,lof+k,none⟩):=hd 4 (by rfl)
           have f0:=cell_later hbe q9
           refine .inl ⟨goes_free rfl,?_⟩
           simp [Oper.wp,execOp,Oper.upon,go_sem,Act.eval,e1,f0]
           exact hK _ [] w' (Below.refl _ _) rfl (fun _ h=>nomatch h)
          ·intro act gs w' hbe hd hdis ho K hK
           have e0:act.tmps.getD 129 undef=.agg #[.slice ro R.length rc,.slice so S.length sc]:=hd 1 (by rfl)
           have e1:act.tmps.getD 133 undef=.int .i64 (j:Int):=hd 5 (by rfl)
           refine .inl ⟨goes_free rfl,?_⟩
           simp [Oper.wp,execOp,Oper.upon,go_sem,Act.eval,e0,e1]
           refine (HUE.out w' hbe).mono ?_
           rintro e w6 ⟨v,rfl,h1,h2⟩
           exact hK _ [] w6 h2 h1 (fun _ h=>nomatch h)
          ·intro act gs w' hbe hd hdis ho K hK
           obtain ⟨aa,ca,ea,ha⟩:RowI L (act.tmps.getD 128 undef) w':=hd 0 (by rfl)
           obtain ⟨ab,cb,eb,hb⟩:RowI u (act.tmps.getD 134 undef) w':=hd 6 (by rfl)
           refine .inl ⟨goes_free rfl,?_⟩
           simp [Oper.wp,execOp,Oper.upon,go_sem,Act.eval,ea,eb]
           refine (HJ.out _ _ w' ⟨aa,ca,rfl,ha⟩ ⟨ab,cb,rfl,hb⟩).mono ?_
           rintro e w6 ⟨v,rfl,h3,h4⟩
           exact hK _ [] w6 h4 h3 (fun _ h=>nomatch h)
         ·intro vs gs act w7 hb7 hR _ _ hon hoff hact
          obtain ⟨a9,c9,e9,hrc⟩:=hR 7 (by decide)
          have q9:act.tmps.getD 135 undef=.slice a9 (L++u).length c9:=(hon 7 (by decide)).trans e9
          obtain ⟨Lu,hLu⟩:∃Lu,Lu=L++u:=⟨_,rfl⟩
          rw [←hLu] at q9 hrc HWS e9
          have HRC:=Lib.hid hrc
          have HBC:=Lib.hid (HBR.out.st hb7)
          simp [Oper.wp,execOp,Oper.upon,go_sem,Act.eval,q9]
          rw [hact]
          simp only [puts,dstAt,List.getElem?_cons_zero,List.getElem?_cons_succ,Option.bind_some,Option.getD_some,Act.put,List.length_cons,List.length_nil,Nat.reduceAdd,List.setIfInBounds_toArray,List.set_cons_zero,List.set_cons_succ,e9]
          clear hrc hb7 hR hon hoff hact q9 e9 hLu
          generalize vs 0=y0
          generalize vs 1=y1
          generalize vs 2=y2
          generalize vs 3=y3
          generalize vs 4=y4
          generalize vs 5=y5
          generalize vs 6=y6
          go_wp2
          go_roundg (l.length-(k+1))
          case measure=>omega
          case rel=>exact ⟨k+1,Lu,a9,c9,by omega,Nat.le_refl _,by go_num,by rw [HAS.out],rfl,HRC.out,HWS.out.symm,HBC.out⟩
        |false=>
         rw [hx,if_neg (by simp),List.append_nil] at HWS
         rw [hx,Bool.and_false] at HAS
         have hcond:(decide (x<0)||decide ((S.length:Int)≤x))=true:=by
          rcases Classical.em (0≤x∧x<(S.length:Int)) with h|h
          ·rw [inS_iff.2 h] at hx;cases hx
          ·simp;omega
         clear hx
         by_cases hx0:x<0
         ·go_upto_region 14 with (fail)
          refine wp_region_ext (by kernel_rfl) (by kernel_rfl) ?_
          repeat (go_big_quiet_step ((fail)))
          refine wpQuiet_nil ?_
          rintro _ ⟨ps,rfl⟩
          have HBs:=Lib.hid (below_ext wr ps)
          generalize ext wr ps=ws at HBs ⊢
          have HBR:=Lib.hid (HBr.out.st HBs.out)
          have HCS2:=Lib.hid (HCL.out.go HBs.out)
          clear y9 u2 u3 e9 e3 HBs HCL
          go_wp2
          go_roundg (l.length-(k+1))
          case measure=>omega
          case rel=>exact ⟨k+1,L,la,lca,by omega,Nat.le_refl _,by go_num,by rw [HAS.out],rfl,HCS2.out,HWS.out.symm,HBR.out⟩
         ·have hx1:(S.length:Int)≤x:=by simp at hcond;omega
          go_upto_region 14 with (fail)
          refine wp_region_ext (by kernel_rfl) (by kernel_rfl) ?_
          repeat (go_big_quiet_step ((fail)))
          refine wpQuiet_nil ?_
          rintro _ ⟨ps,rfl⟩
          have HBs:=Lib.hid (below_ext wr ps)
          generalize ext wr ps=ws at HBs ⊢
          have HBR:=Lib.hid (HBr.out.st HBs.out)
          have HCS2:=Lib.hid (HCL.out.go HBs.out)
          clear y9 u2 u3 e9 e3 HBs HCL
          go_wp2
          go_roundg (l.length-(k+1))
          case measure=>omega
          case rel=>exact ⟨k+1,L,la,lca,by omega,Nat.le_refl _,by go_num,by rw [HAS.out],rfl,HCS2.out,HWS.out.symm,HBR.out⟩
       ·obtain rfl:k=l.length:=by omega
        have HLF:=Lib.hid (show L=wantF S l by rw [HLL.out,List.take_length])
        rw [List.take_length]
        have HLN:=Lib.hid (show L.length≤1000000 by have h1:=wantF_len H4.out l;have h2:=HL9.out;rw [HLF.out];omega)
        have HAA:=Lib.hid (all_any hb n es R S _ _ HF.out l lo lc wr (HH3.out.go HBr.out) (HLC.out.go HBr.out) (by have:=HL9.out;omega) (unM_few H4.out HL9.out) H9.out)
        unfold UnAllPost at HAA
        have HWA:=Lib.hid (fun h:l.all (inS S)=true=>wantF_all h)
        clear z2 z3 HLL
        go_upto_region 18 with (go_at_call 59;refine HAA.out.mono ?_;rintro e w4 ⟨v20,b20,out,rfl,k1,k2,k3,k4⟩;(have HV20:=Lib.hid k1);(have hb4:=k2);(have HK3:=Lib.hid k3);(have HK4:=Lib.hid k4);clear k1 k2 k3 k4)
        have HB4:=Lib.hid (HBr.out.st hb4)
        have v2:=cell_later hb4 u2
        have v3:=cell_later hb4 u3
        have HCL4:=Lib.hid (HCL.out.go hb4)
        clear u2 u3 hb4
        rw [HK3.out]
        have HIE:=Lib.hid (fun W (hz:Below w4.heap.size w4 W)=>unEdges_any hb n es R S _ _ HF.out i W (HH3.out.go (HB4.out.st hz)) (unM_sing H4.out i) H9.out)
        go_cut [162] from 142 to 163 (fun v162 wc=>v162=.bool false∧Below w4.heap.size w4 wc)
        case first=>
         cases b20 with
         |true=>
          obtain rfl:out=L:=by
           rcases HK4.out with ⟨_,h⟩|⟨h,_⟩
           ·rw [h,HLF.out,HWA.out HK3.out]
           ·cases h
          obtain ⟨a20,c20,e20,hc20⟩:=Cel.of_owns HV20.out
          subst e20
          have HSM:=Lib.hid (sameInts_any a20 la c20 lca out out w4 (by have:=HLN.out;omega) (by have:=HLN.out;omega) hc20 HCL4.out)
          simp only [decide_true] at HSM
          clear hc20 HK3 HK4 HLF HWA HLN HIE v2 v3
          go_wp2_with (go_at_call 23;refine HSM.out.mono ?_;rintro e w5 ⟨rfl,n5,rfl⟩)
          go_meet
          exact ⟨rfl,(Below.refl _ _).dr _⟩
         |false=>
          obtain ⟨rfl,rfl⟩:out=[]∧v20=.slice none 0 0:=by
           rcases HK4.out with ⟨h,_⟩|⟨_,h1,h2⟩
           ·cases h
           ·exact ⟨h1,h2⟩
          clear HK3 HK4 HLF HWA HLN HIE v2 v3
          go_wp2
          go_meet
          exact ⟨rfl,Below.refl _ _⟩
        case rest=>
         obtain ⟨rfl,hbc⟩:=hcut
         have HB5:=Lib.hid (HB4.out.st hbc)
         have q2:=cell_later hbc v2
         have q3:=cell_later hbc v3
         have HIE2:=Lib.hid (HIE.out wc hbc)
         have HBW:=Lib.hid hbc
         clear hbc v2 v3 HK3 HK4 HV20 HLF HWA HLN HIE HAA
         cases hin:inS S i with
         |false=>
          have HED:=Lib.hid (HIE2.out.mono (fun _ _ h=>un_edges_no hin h))
          have hio:i<0∨(S.length:Int)≤i:=by
           rcases Classical.em (0≤i∧i<(S.length:Int)) with h|h
           ·rw [inS_iff.2 h] at hin;cases hin
           ·omega
          have HDE:=Lib.hid (fun W (hz:Below wc.heap.size wc W)=>unDepth_none hb n es R S _ _ i hio W (HH3.out.go (HB5.out.st hz)))
          clear HIE2 hin
          go_upto_region 22 with (first
           |(go_at_call 49;refine HED.out.mono ?_;rintro e w6 ⟨rfl,hb6⟩;(have HB6:=Lib.hid hb6);(have r3:=cell_later hb6 q3);clear hb6)
           |(go_at_call 56;refine (HDE.out _ HB6.out).mono ?_;rintro e w7 ⟨rfl,hb7⟩;(have HB7:=Lib.hid (HB6.out.st hb7));(have t3:=cell_later hb7 r3);clear hb7))
          by_cases hi0:i<0
          ·clear hio
           go_wp2_with (go_at_call 47;refine (HAL.out _).mono ?_;rintro e w8 ⟨rfl,hb8⟩;(have HB8:=Lib.hid (HB5.out.st (HB7.out.st hb8)));clear hb8)
           go_ret
           exact ⟨rfl,HBV.out.st HB8.out⟩
          ·have hi1:(S.length:Int)≤i:=by omega
           clear hio
           go_wp2_with (go_at_call 47;refine (HAL.out _).mono ?_;rintro e w8 ⟨rfl,hb8⟩;(have HB8:=Lib.hid (HB5.out.st (HB7.out.st hb8)));clear hb8)
           go_ret
           exact ⟨rfl,HBV.out.st HB8.out⟩
         |true=>
          obtain ⟨hi0,hi1⟩:=inS_iff.1 hin
          obtain ⟨j,rfl⟩:∃j:Nat,i=(j:Int):=⟨i.toNat,by omega⟩
          have hj:j<S.length:=by omega
          have HED:=Lib.hid (HIE2.out.mono (fun _ _ h=>un_edges_ok hj h))
          have HDE:=Lib.hid (fun W (hz:Below wc.heap.size wc W)=>unDepth_any hb n es R S _ _ HF.out j hj W (HH3.out.go (HB5.out.st hz)) (by have:=HS24.out;omega))
          have HUE:=Lib.hid (fun W (hz:Below wc.heap.size wc W)=>refUnE_any R S HF.out ro so rc sc H4.out (by have:=HS24.out;omega) j hj W (HSC.out.go (HB5.out.st hz)))
          have HUD:=Lib.hid (fun W (hz:Below wc.heap.size wc W)=>refUnD_any R S HF.out ro so rc sc (by have:=HS24.out;omega) j hj W (HSC.out.go (HB5.out.st hz)))
          unfold UrPost RowI at HUE
          have HUL:=Lib.hid (show (unL S j).length≤1000000 by have:=H4.out j hj;omega)
          have hd0:decide ((j:Int)<0)=false:=by rw [decide_eq_false_iff_not];omega
          have hd1:decide ((S.length:Int)≤(j:Int))=false:=by rw [decide_eq_false_iff_not];omega
          clear HIE2 hin
          generalize unL S j=u at*
          generalize ((deL S j:Nat):Int)=dj at*
          go_upto_region 24 with (first
           |(go_at_call 49;refine HED.out.mono ?_;rintro e w6 ⟨a6,c6,rfl,hc6,hb6⟩;(have HC6:=Lib.hid hc6);(have HB6:=Lib.hid hb6);(have r2:=cell_later hb6 q2);(have r3:=cell_later hb6 q3);clear hb6 hc6)
           |(go_at_call 56;refine (HDE.out _ HB6.out).mono ?_;rintro e w7 ⟨rfl,hb7⟩;(have HB7:=Lib.hid (HB6.out.st hb7));(have HC7:=Lib.hid (HC6.out.go hb7));(have t2:=cell_later hb7 r2);(have t3:=cell_later hb7 r3);clear hb7))
          go_wp2_with (first
           |(go_at_call 58;refine (HUE.out _ HB7.out).mono ?_;rintro e w8 ⟨_,rfl,⟨a8,c8,rfl,hc8⟩,hb8⟩;(have HB8:=Lib.hid (HB7.out.st hb8));(have HSM:=Lib.hid (sameInts_any a6 a8 c6 c8 u u w8 (by have:=HUL.out;omega) (by have:=HUL.out;omega) (HC7.out.go hb8) hc8));(simp only [decide_true] at HSM);(have s2:=cell_later hb8 t2);(have s3:=cell_later hb8 t3);clear hb8 hc8)
           |(go_at_call 23;refine HSM.out.mono ?_;rintro e w9 ⟨rfl,n9,rfl⟩;(have HB9:=Lib.hid (HB8.out.st ((Below.refl _ w8).dr n9))))
           |(go_at_call 60;refine (HUD.out _ HB9.out).mono ?_;rintro e w10 ⟨rfl,hb10⟩;(have HB10:=Lib.hid (HB9.out.st hb10));clear hb10)
           |(go_at_call 47;refine (HAL.out _).mono ?_;rintro e w11 ⟨rfl,hb11⟩;(have HB11:=Lib.hid (HB5.out.st (HB10.out.st hb11)));clear hb11))
          go_ret
          exact ⟨rfl,HBV.out.st HB11.out⟩
end Go.Proofs.YtkdomobedfhhgaaGreat
