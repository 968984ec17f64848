/- Parts; no condition. -/
import Derived.Test.YteaaapdjplbljaaGreatVc25
set_option linter.unusedVariables false
set_option linter.unusedSimpArgs false
set_option linter.unnecessarySimpa false
set_option maxRecDepth 100000
set_option maxHeartbeats 8000000
namespace Go.Proofs.YteaaapdjplbljaaGreat
open Go Go.Proofs Go.RowKit Go.Shelf Ch
theorem Rp:Gq Tryz.prog 37 (.int .u64 0) 1 8:=⟨by kernel_rfl,rfl,by decide⟩
def Uo (es:List EdgeD):List Value:=es.map fun x=>.int .u64 x.w
theorem Ai5 {es:List EdgeD} {k:Nat} (h:k<es.length):Uo (es.take (k+1))=Uo (es.take k)++[.int .u64 es[k].w]:=by
 unfold Uo;rw [Bk3 h,Bm6];rfl
def Vu (n:Nat) (xs:List Value) (w:World) (e:Ending) (w':World):Prop:=
 ∃ao cap,e=.returned (.slice ao n cap)/\Cel w' ao xs/\Below w.heap.size w w'/\∀k,(Value.slice ao n cap).ownBlock=some k->w.heap.size<=k
theorem Qd (n:Int) (es:List EdgeD) (ao no:Option Addr) (cap nn nc:Nat) (back:Bool) (w:World) (hg:Ak ⟨n,es⟩=0) (hel:es.length<=1000000) (hc:Cel w ao (Ax es)):
  Calls Tryz.prog 120 #[.agg #[.int .i64 n,.slice ao es.length cap],Be6 back no nn nc] w (Vu es.length (Uo es) w):=by
 obtain ⟨W,hW⟩:∃W,W=(w.alloc (Obj.cells #[.int .i64 n,.slice ao es.length cap] 24)).alloc (Obj.cells #[.bool back,.slice no nn nc,.slice none 0 0,.slice none 0 0,.int .u64 0] 119):=⟨_,rfl⟩;have hbw:Below w.heap.size w W:=by rw [hW];exact (Below.of_al _ _).al _
 have c0:W.cell? ⟨w.heap.size,0,none⟩=some (.int .i64 n):=by rw [hW];go_simp
 have c1:W.cell? ⟨w.heap.size,1,none⟩=some (.slice ao es.length cap):=by rw [hW];go_simp
 have c2:W.cell? ⟨w.heap.size+1,3,none⟩=some (.slice none 0 0):=by rw [hW];go_simp
 have HW:=Bi5 hW;have HR:=Bi5 (Kr ⟨n,es⟩ ao cap W (show es.length<=9223372036854775807 by omega) (hc.go hbw));have HC:=Bi5 (hc.go hbw);have HB:=Bi5 hbw;have HSZ:=Bi5 (show w.heap.size<W.heap.size by rw [hW];simp;omega);rw [hg] at HR;simp only at HR;unfold Vu;clear hW hc hbw hg
 go_enter Tryz.func120,Tryz.ntmps120
 go_upto_region 1 with (fail)
 rw [<-HW.out]
 go_upto_region 5 with (go_at_call 78;refine HR.out.mono ?_;rintro e w1 ⟨rfl,hb1⟩;(have d1:=Bi6 hb1 c1);(have d2:=Bi6 hb1 c2);(have HC1:=Bi5 (HC.out.go hb1));(have HB1:=Bi5 hb1);clear hb1)
 clear c0 c1 c2
 go_loopg [5,6] es.length (fun gm v5 v6 wr=>∃k:Nat,k<=es.length/\es.length-k<=gm/\v6=.int .i64 k/\Aside (wr.ownsRow w1.heap.size 37 1 v5 k (Uo (es.take k)))/\Aside (Below w1.heap.size w1 wr))
 case atStart=>exact ⟨0,Bi8 _,by omega,rfl,by rw [List.take_zero];exact World.ownsRow_nil _ _ _ _,Below.refl _ _⟩
 case round=>
  obtain ⟨k,hk,hg,rfl,HO,HBr⟩:=hrel;have e1:=Bi6 HBr.out d1;have e2:=Bi6 HBr.out d2
  by_cases hlt:k<es.length
  ·have hlt3:(k:Int)<(es.length:Int):=by omega
   have hk0:(0:Int)<=(k:Int):=by omega
   obtain ⟨qb,qo,rfl,y0,y1,y2⟩:=(HC1.out.go HBr.out).edge hlt;have HST:=Bi5 (Ai5 hlt);generalize es[k]=x at*;generalize Uo (es.take k)=row at*;clear y0 y1
   go_wp2_with (at_builtin;go_must (refine Ce w1.heap.size 37 _ 1 8 Rp Tryz.underlying60 _ k row ⟨wr.heap.size,0,none⟩ 1 1 [.int .u64 x.w] rfl rfl (World.ownsRow.alloc HO.out _) (cell_one_new _ _ _) (Cr rfl) ⟨rfl,by decide,by omega,by omega,(by have:=HBr.out.size;simp;omega)⟩ ?_);intro g6 cap6 w6 hown6 hgrow6 hbl6 hat6 hlt6;(have HO6:=Bi5 hown6);(have HB6:=Bi5 ((HBr.out.al _).trans hbl6));clear hown6 hgrow6 hbl6 hat6 hlt6)
   go_roundg (es.length-(k+1))
   case measure=>omega
   case rel=>exact ⟨k+1,by omega,Bi7 _,by go_num,by rw [HST.out];exact HO6.out,HB6.out⟩
  ·obtain rfl:k=es.length:=by omega
   go_wp2
   obtain ⟨ao9,cap9,rfl,hce9⟩:=Cel.of_owns HO.out
   go_ret
   rw [Bn1] at hce9;exact ⟨ao9,cap9,rfl,hce9,HB.out.st (HB1.out.st HBr.out),fun j hj=>by have:=(HO.out.lt j hj).1;have:=HB1.out.size;have:=HSZ.out;omega⟩
end Go.Proofs.YteaaapdjplbljaaGreat
