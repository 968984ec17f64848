/- The reference's orders of tours. -/
import Derived.Test.YteaaapdjplbljaaGreatLyS
import Derived.Test.YteaaapdjplbljaaGreatProg
import Derived.Test.YteaaapdjplbljaaGreatLy08
import Derived.Test.YteaaapdjplbljaaGreatLw14
set_option linter.unusedVariables false
set_option linter.unusedSimpArgs false
set_option linter.unnecessarySimpa false
namespace Go.Proofs.YteaaapdjplbljaaGreat
open Go Go.Proofs Go.RowKit Go.Shelf Go.Proofs.YteaaapdjplbljaaGreat.Hp Go.Proofs.YteaaapdjplbljaaGreat.Ch Go.Proofs.YteaaapdjplbljaaGreat.To
theorem elem_rowi:Elem Tryz.prog 25 (.slice none 0 0) 1 24:=⟨by kernel_rfl,rfl,by decide⟩
def RowAt (w:World) (v u:Value) (l:List Nat):Prop:=∃(a:Option Addr) (c:Nat),u=.slice a l.length c∧Cel w a (l.map encN)∧∀x,a=some x→v.ownBlock≠some x.block∧x.block<w.heap.size
structure RoM (w:World) (B:Nat) (v:Value) (vs:List Value) (ls:List (List Nat)):Prop where
 own:w.ownsRow B 25 1 v ls.length vs
 at':∀i (h:i<ls.length),∃u,vs[i]? =some u∧RowAt w v u ls[i]
theorem RoM.nil (w:World) (B:Nat):RoM w B (.slice none 0 0) [] []:=⟨World.ownsRow_nil _ _ _ _,fun i h=>absurd h (Nat.not_lt_zero _)⟩
theorem RowAt.go {w w':World} {v u:Value} {l:List Nat} (h:RowAt w v u l) (hb:Below w.heap.size w w'):RowAt w' v u l:=by
 obtain ⟨a,c,h1,h2,h3⟩:=h
 exact ⟨a,c,h1,h2.go hb,fun x hx=>⟨(h3 x hx).1,Nat.lt_of_lt_of_le (h3 x hx).2 hb.size⟩⟩
theorem RoM.go {w w':World} {B:Nat} {v:Value} {vs:List Value} {ls:List (List Nat)} (h:RoM w B v vs ls) (hb:Below w.heap.size w w'):RoM w' B v vs ls:=
 ⟨hp_owns_go h.own hb,fun i hi=>let ⟨u,h3,h4⟩:=h.at' i hi;⟨u,h3,h4.go hb⟩⟩
theorem RowAt.grown {w w':World} {g n c:Nat} {v u:Value} {l:List Nat} (h:RowAt w v u l) (hg:w.grownBy w' v.ownBlock) (hat:v.ownBlock=some g∨g=w.heap.size):RowAt w' (.slice (some ⟨g,0,none⟩) n c) u l:=by
 obtain ⟨a,c',h1,h2,h3⟩:=h
 refine ⟨a,c',h1,fun i x hx=>?_,fun x hx=>⟨fun e=>?_,Nat.lt_of_lt_of_le (h3 x hx).2 hg.size⟩⟩
 ·obtain ⟨b,o,e,h4⟩:=h2 i x hx
  exact ⟨b,o,e,(gr_off hg).cell h4 (fun k=>(h3 _ e).1 k)⟩
 ·obtain rfl:g=x.block:=Option.some.inj e
  rcases hat with h|h
  ·exact (h3 x hx).1 h
  ·have:=(h3 x hx).2
   omega
theorem RoM.add {w w':World} {B g c:Nat} {v u:Value} {ls:List (List Nat)} {vs:List Value} {l:List Nat} (h:RoM w B v vs ls) (hu:RowAt w v u l)
  (ho:w'.ownsRow B 25 1 (.slice (some ⟨g,0,none⟩) (ls.length+1) c) (ls.length+1) (vs++[u])) (hg:w.grownBy w' v.ownBlock) (hat:v.ownBlock=some g∨g=w.heap.size):RoM w' B (.slice (some ⟨g,0,none⟩) (ls.length+1) c) (vs++[u]) (ls++[l]):=by
 have hl:vs.length=ls.length:=by have:=h.own.1;omega
 refine ⟨by rw [List.length_append,List.length_singleton];exact ho,fun i hi=>?_⟩
 rw [List.length_append,List.length_singleton] at hi
 by_cases e:i<ls.length
 ·obtain ⟨x,h3,h4⟩:=h.at' i e
  refine ⟨x,by rw [List.getElem?_append_left (by omega)];exact h3,?_⟩
  rw [List.getElem_append_left e]
  exact h4.grown hg hat
 ·obtain rfl:i=ls.length:=by omega
  refine ⟨u,by rw [List.getElem?_append_right (by omega),hl,Nat.sub_self];rfl,?_⟩
  rw [List.getElem_append_right (by omega)]
  simp only [Nat.sub_self,List.getElem_cons_zero]
  exact hu.grown hg hat
def OrdsPost (B:Nat) (v:Value) (ls:List (List Nat)) (w:World) (e:Ending) (w':World):Prop:=
 ∃v' vs',e=.returned v'∧RoM w' B v' vs' ls∧OffX (fun k=>v.ownBlock=some k) w w'∧∀k,v'.ownBlock=some k→v.ownBlock=some k∨w.heap.size≤k
theorem lit_own0 (w:World) (T:TypeId) (B:Nat) (hB:B≤w.heap.size):(w.alloc (Obj.cells #[] T)).ownsRow B T 1 (.slice (some ⟨w.heap.size,0,none⟩) 0 0) 0 []:=
 ⟨rfl,.inr ⟨w.heap.size,0,#[],rfl,hB,heap_alloc_new w _,by decide,by decide,rfl,rfl⟩⟩
theorem fresh_row (so:List Nat) (sa:Option Addr) (sc:Nat) (w:World) (hs:Cel w sa (so.map encN)) (hm:so.length≤7):
  ∃a c w1,(Builtin.append_ #[25,25] 25 #[.slice (some ⟨w.heap.size,0,none⟩) 0 0,.slice sa so.length sc]).run Tryz.prog (w.alloc (Obj.cells #[] 3))=.ok (.slice a so.length c) w1∧
   w1.ownsRow w.heap.size 3 1 (.slice a so.length c) so.length (so.map encN)∧Below w.heap.size w w1:=by
 have hb1:Below w.heap.size w (w.alloc (Obj.cells #[] 3)):=Below.of_al _ _
 obtain ⟨a,c,w1,h1,h2,h3⟩:=run_appAll (P:=Tryz.prog) (w:=w.alloc (Obj.cells #[] 3)) 25 25 w.heap.size 3 _ 8 elem_int Tryz.underlying25 (some ⟨w.heap.size,0,none⟩) 0 0 [] (lit_own0 w _ _ (Nat.le_refl _)) sa so.length sc (so.map encN) (hs.go hb1) (fun u hu=>by obtain ⟨x,_,rfl⟩:=List.mem_map.1 hu;rfl) ⟨by simp,by omega,by omega,hb1.size⟩
 rw [Nat.zero_add] at h1 h2
 exact ⟨a,c,w1,h1,h2,hb1.trans h3⟩
theorem row_fresh {w w1:World} {v:Value} {a:Option Addr} {c:Nat} {so:List Nat} (h:w1.ownsRow w.heap.size 3 1 (.slice a so.length c) so.length (so.map encN)) (hv:∀k,v.ownBlock=some k→k<w.heap.size):RowAt w1 v (.slice a so.length c) so:=by
 obtain ⟨a',c',e,hc⟩:=Cel.of_owns h
 cases e
 refine ⟨_,_,rfl,hc,fun x hx=>?_⟩
 subst hx
 have h9:=own_lt h x.block rfl
 exact ⟨fun e=>by have:=hv _ e;omega,h9.2⟩
set_option maxRecDepth 100000 in
set_option maxHeartbeats 4000000 in
theorem orders_base (so:List Nat) (sa:Option Addr) (sc:Nat) (ls:List (List Nat)) (v:Value) (vs:List Value) (B:Nat) (w:World) (hs:Cel w sa (so.map encN)) (hm7:so.length≤7) (hB:B≤w.heap.size) (hls:ls.length+1≤1000000) (h:RoM w B v vs ls):
  Calls Tryz.prog 69 #[.int .i64 (so.length:Int),.slice sa so.length sc,v] w (OrdsPost B v (ls++[so]) w):=by
 obtain ⟨a,c,w1,r1,o1,b1⟩:=fresh_row so sa sc w hs hm7
 have hv:∀k,v.ownBlock=some k→k<w.heap.size:=fun k hk=>(own_lt h.own k hk).2
 obtain ⟨W2,hW2⟩:∃W2,W2=w1.alloc (Obj.cells #[.slice a so.length c] 25):=⟨_,rfl⟩
 have hb2:Below w1.heap.size w1 W2:=by rw [hW2];exact Below.of_al _ _
 have hm2:=h.go (b1.st hb2)
 have hu:=(row_fresh o1 hv).go hb2
 obtain ⟨g6,c6,w6,r6,o6,p6,g7,t6,l6⟩:=run_appK (P:=Tryz.prog) 126 126 B 25 _ 24 elem_rowi Tryz.underlying126 v ls.length vs hm2.own ⟨w1.heap.size,0,none⟩ 1 (.slice a so.length c) (gr_one (by rw [hW2];go_simp)) rfl ⟨by omega,by omega,by have:=(b1.st hb2).size;omega⟩
 have HM:=Lib.hid (hm2.add hu o6 g7 t6)
 have HX:=Lib.hid (show OffX (fun k=>v.ownBlock=some k) w w6 from (OffX.of_below (b1.st hb2)).trans (gr_off g7))
 have HN:=Lib.hid (show ∀k,(Value.slice (some ⟨g6,0,none⟩) (ls.length+1) c6).ownBlock=some k→v.ownBlock=some k∨w.heap.size≤k from fun k hk=>by
  obtain rfl:g6=k:=Option.some.inj hk
  rcases t6 with t6|t6
  ·exact .inl t6
  ·right
   have:=(b1.st hb2).size
   omega)
 have HR1:=Lib.hid r1
 rw [hW2] at r6
 have HR2:=Lib.hid r6
 clear r1 r6 o1 b1 hv hW2 hb2 hm2 hu o6 p6 g7 t6 l6 hs h hls hB hm7
 generalize so.length=n at*
 generalize ls.length+1=n2 at*
 go_enter Tryz.func69,Tryz.ntmps69
 go_wp2_with (first
  |(at_builtin;refine Lib.wpList_append_run _ rfl _ _ _ _ rfl _ _ rfl rfl _ _ HR1.out ?_)
  |(at_builtin;refine Lib.wpList_append_run _ rfl _ _ _ _ rfl _ _ rfl rfl _ _ HR2.out ?_))
 go_ret
 exact ⟨_,_,rfl,HM.out,HX.out,HN.out⟩
def pieceF (m r:Nat) (so:List Nat) (j:Nat):List (List Nat):=if j∈so then [] else (tailsF m r (so++[j])).map ((so++[j])++·)
def outF (m r:Nat) (so:List Nat) (i:Nat):List (List Nat):=(List.range i).flatMap (pieceF m r so)
theorem outF_succ (m r:Nat) (so:List Nat) (i:Nat):outF m r so (i+1)=outF m r so i++pieceF m r so i:=by
 unfold outF
 rw [List.range_succ,List.flatMap_append]
 simp
theorem outF_all (m r:Nat) (so:List Nat):outF m r so m=(tailsF m (r+1) so).map (so++·):=by
 show (List.range m).flatMap (pieceF m r so)=((List.range m).flatMap fun i=>if i∈so then [] else (tailsF m r (so++[i])).map (i::·)).map (so++·)
 rw [List.map_flatMap]
 congr 1
 funext i
 unfold pieceF
 by_cases h:i∈so
 ·rw [if_pos h,if_pos h]
  rfl
 ·rw [if_neg h,if_neg h,List.map_map]
  refine List.map_congr_left (fun q _=>?_)
  show so++[i]++q=so++(i::q)
  simp
theorem outF_le (m r:Nat) (so:List Nat):∀(k d:Nat),(outF m r so k).length≤(outF m r so (k+d)).length
 |k,0=>Nat.le_refl _
 |k,d+1=>by
  have:=outF_le m r so k d
  rw [show k+(d+1)=(k+d)+1 from rfl,outF_succ,List.length_append]
  omega
set_option maxRecDepth 100000 in
set_option maxHeartbeats 4000000 in
theorem orders_any (m:Nat) (hm7:m≤7):∀(r:Nat) (so:List Nat) (sa:Option Addr) (sc:Nat) (ls:List (List Nat)) (v:Value) (vs:List Value) (B:Nat) (w:World),so.length+r=m→Cel w sa (so.map encN)→(∀x,sa=some x→v.ownBlock≠some x.block)→B≤w.heap.size→ls.length+(tailsF m r so).length≤1000000→RoM w B v vs ls→
  Calls Tryz.prog 69 #[.int .i64 (m:Int),.slice sa so.length sc,v] w (OrdsPost B v (ls++(tailsF m r so).map (so++·)) w)
 |0,so,sa,sc,ls,v,vs,B,w,hm,hs,hsv,hB,hls,h=>by
  obtain rfl:so.length=m:=hm
  have e:(tailsF so.length 0 so).map (so++·)=[so]:=by
   show [so++[]]=[so]
   rw [List.append_nil]
  rw [e]
  exact orders_base so sa sc ls v vs B w hs hm7 hB hls h
 |r+1,so,sa,sc,ls,v,vs,B,w,hm,hs,hsv,hB,hls,h=>by
  have IH:=Lib.hid (orders_any m hm7 r)
  have HS:=Lib.hid hs
  have HSV:=Lib.hid hsv
  have HM:=Lib.hid hm
  have HI:=Lib.hid h
  have hne:(((so.length:Nat):Int)==(m:Int))=false:=by rw [beq_eq_false_iff_ne];omega
  rw [←outF_all]
  have hls2:ls.length+(outF m r so m).length≤1000000:=by rw [outF_all,List.length_map];exact hls
  have hmi:(m:Int)≤7:=by omega
  have HLS:=Lib.hid hls2
  have HBB:=Lib.hid hB
  clear hs hsv hm h hls hls2 hB
  generalize hn:so.length=nl at*
  have HNL:=Lib.hid hn
  clear hn
  go_enter Tryz.func69,Tryz.ntmps69
  go_wp2
  go_loopg [2,7] m (fun gg v2 v7 wr=>∃(i:Nat) (us:List Value),i≤m∧m-i≤gg∧v7=.int .i64 (i:Int)∧Aside (RoM wr B v2 us (ls++outF m r so i))∧Aside (OffX (fun k=>v.ownBlock=some k) w wr)∧Aside (∀k,v2.ownBlock=some k→v.ownBlock=some k∨w.heap.size≤k))
  case atStart=>exact ⟨0,vs,Nat.zero_le _,by omega,rfl,by show RoM w B v vs (ls++[]);rw [List.append_nil];exact HI.out,OffX.refl _ _,fun k hk=>.inl hk⟩
  case round=>
   obtain ⟨i,us,hi,hgg,rfl,h1,h2,h3⟩:=hrel
   have HR:=Lib.hid h1.out
   have HX:=Lib.hid h2.out
   have HN:=Lib.hid h3.out
   clear h1 h2 h3
   by_cases hlt:i<m
   ·have hlt2:(i:Int)<(m:Int):=by omega
    have hi0:(0:Int)≤(i:Int):=by omega
    have HC:=Lib.hid (show Cel wr sa (so.map encN) from fun j u hj=>by
     obtain ⟨b,o,e,hc⟩:=HS.out j u hj
     exact ⟨b,o,e,HX.out.cell hc (HSV.out ⟨b,o,none⟩ e)⟩)
    have HAS:=Lib.hid (refHas_any sa sc (so.map Int.ofNat) (i:Int) wr (by rw [List.length_map,HNL.out];have:=HM.out;omega) (by rw [encN_map];exact HC.out))
    rw [List.length_map,mem_cast,HNL.out] at HAS
    by_cases hin:i∈so
    ·rw [decide_eq_true hin] at HAS
     have HP:=Lib.hid (show outF m r so (i+1)=outF m r so i by rw [outF_succ];unfold pieceF;rw [if_pos hin,List.append_nil])
     clear hin
     go_wp2_with (go_at_call 44;refine HAS.out.mono ?_;rintro e w1 ⟨rfl,hww⟩;obtain rfl:=hww.symm)
     go_roundg (m-(i+1))
     case measure=>omega
     case rel=>exact ⟨i+1,us,by omega,Nat.le_refl _,by go_num,by rw [HP.out];exact HR.out,HX.out,HN.out⟩
    ·rw [decide_eq_false hin] at HAS
     have HP:=Lib.hid (show outF m r so (i+1)=outF m r so i++(tailsF m r (so++[i])).map ((so++[i])++·) by rw [outF_succ];unfold pieceF;rw [if_neg hin])
     have HLE:=Lib.hid (show (outF m r so i).length+(tailsF m r (so++[i])).length≤(outF m r so m).length from by
      have h9:=outF_le m r so (i+1) (m-(i+1))
      rw [show i+1+(m-(i+1))=m by omega,HP.out,List.length_append,List.length_map] at h9
      exact h9)
     obtain ⟨a,c,w1,r1,o1,b1⟩:=fresh_row so sa sc wr HC.out (by rw [HNL.out];have:=HM.out;omega)
     obtain ⟨W2,hW2⟩:∃W2,W2=w1.alloc (Obj.cells #[.int .i64 (i:Int)] 3):=⟨_,rfl⟩
     have hb2:Below w1.heap.size w1 W2:=by rw [hW2];exact Below.of_al _ _
     obtain ⟨g6,c6,w6,r6,o6,p6,g7,t6,l6⟩:=run_appK (P:=Tryz.prog) 25 25 wr.heap.size 3 _ 8 elem_int Tryz.underlying25 (.slice a so.length c) so.length (so.map encN) (hp_owns_go o1 hb2) ⟨w1.heap.size,0,none⟩ 1 (.int .i64 (i:Int)) (gr_one (by rw [hW2];go_simp)) rfl ⟨by rw [HNL.out];have:=HM.out;omega,by rw [HNL.out];have:=HM.out;omega,by have:=(b1.st hb2).size;omega⟩
     have hbw:Below wr.heap.size wr w6:=(b1.st hb2).trans ((gr_off g7).below (by have:=(b1.st hb2).size;omega) (fun k hk=>(own_lt o1 k hk).1))
     have hv2:∀k,u2.ownBlock=some k→k<wr.heap.size:=fun k hk=>(own_lt HR.out.own k hk).2
     have hg6:wr.heap.size≤g6:=(own_lt o6 g6 rfl).1
     have hih:=IH.out (so++[i]) (some ⟨g6,0,none⟩) c6 (ls++outF m r so i) u2 us B w6 (by rw [List.length_append,List.length_singleton];have:=HM.out;have:=HNL.out;omega) (by rw [List.map_append];obtain ⟨a9,c9,e9,h9⟩:=Cel.of_owns o6;cases e9;exact h9) (fun x hx e=>by cases hx;have:=hv2 _ e;simp only at this;omega) (by have:=HBB.out;have:=HX.out.size;have:=hbw.size;omega) (by rw [List.length_append];have:=HLE.out;have:=HLS.out;omega) (HR.out.go hbw)
     rw [List.length_append,List.length_singleton,HNL.out,List.append_assoc,←HP.out] at hih
     have HIH:=Lib.hid hih
     rw [HNL.out] at r1 r6
     have HR1:=Lib.hid r1
     rw [hW2] at r6
     have HR6:=Lib.hid r6
     have HBW:=Lib.hid hbw
     clear r1 o1 b1 hW2 hb2 r6 o6 p6 g7 t6 l6 hbw hv2 hg6 hih hin
     go_wp2_with (first
      |(go_at_call 44;refine HAS.out.mono ?_;rintro e w8 ⟨rfl,hww⟩;obtain rfl:=hww.symm)
      |(at_builtin;refine Lib.wpList_append_run _ rfl _ _ _ _ rfl _ _ rfl rfl _ _ HR1.out ?_)
      |(at_builtin;refine Lib.wpList_append_run _ rfl _ _ _ _ rfl _ _ rfl rfl _ _ HR6.out ?_)
      |(go_at_call 69;refine HIH.out.mono ?_;rintro e w8 ⟨v8,us8,rfl,k1,k2,k3⟩;(have HM8:=Lib.hid k1);(have HX8:=Lib.hid k2);(have HN8:=Lib.hid k3);clear k1 k2 k3))
     go_roundg (m-(i+1))
     case measure=>omega
     case rel=>exact ⟨i+1,us8,by omega,Nat.le_refl _,by go_num,HM8.out,(HX.out.trans (OffX.of_below HBW.out)).then' HX8.out HN.out,fun k hk=>(HN8.out k hk).elim (HN.out k) (fun h=>.inr (by have:=HX.out.size;have:=HBW.out.size;omega))⟩
   ·obtain rfl:i=m:=by omega
    go_wp2
    go_ret
    exact ⟨_,us,rfl,HR.out,HX.out,HN.out⟩
end Go.Proofs.YteaaapdjplbljaaGreat
