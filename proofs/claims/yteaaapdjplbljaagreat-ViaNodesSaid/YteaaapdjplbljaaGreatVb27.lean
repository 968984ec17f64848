/- Parts; no condition. -/
import Derived.Test.YteaaapdjplbljaaGreatVb24
set_option linter.unusedVariables false
set_option linter.unusedSimpArgs false
set_option linter.unnecessarySimpa false
set_option maxRecDepth 100000
set_option maxHeartbeats 8000000
namespace Go.Proofs.YteaaapdjplbljaaGreat
open Go Go.Proofs Go.RowKit Go.Shelf Ch
theorem Sk:Gm Tryz.prog 37 (.int .u64 0) 1 8:=⟨by kernel_rfl,rfl,by decide⟩
def Td (es:List EdgeD):List Value:=es.map fun x=>.int .u64 x.w
theorem Al8 {es:List EdgeD} {k:Nat} (h:k<es.length):Td (es.take (k+1))=Td (es.take k)++[.int .u64 es[k].w]:=by
 unfold Td;rw [Bn8 h,Bq1];rfl
def Ww (n:Nat) (xs:List Value) (w:World) (e:Ending) (w':World):Prop:=
 ∃ao cap,e=.returned (.slice ao n cap)/\Cel w' ao xs/\Below w.heap.size w w'/\∀k,(Value.slice ao n cap).ownBlock=some k->w.heap.size<=k
theorem Jo (n:Int) (es:List EdgeD) (ao no:Option Addr) (cap nn nc:Nat) (back:Bool) (w:World) (hg:Ak ⟨n,es⟩=0) (hel:es.length<=1000000) (hc:Cel w ao (Ay es)):
  Calls Tryz.prog 120 #[.agg #[.int .i64 n,.slice ao es.length cap],We back no nn nc] w (Ww es.length (Td es) w):=by
 obtain ⟨W,hW⟩:∃W,W=(w.alloc (Obj.cells #[.int .i64 n,.slice ao es.length cap] 24)).alloc (Obj.cells #[.bool back,.slice no nn nc,.slice none 0 0,.slice none 0 0,.int .u64 0] 119):=⟨_,rfl⟩;have hbw:Below w.heap.size w W:=by rw [hW];exact (Below.of_al _ _).al _
 have c0:W.cell? ⟨w.heap.size,0,none⟩=some (.int .i64 n):=by rw [hW];go_simp
 have c1:W.cell? ⟨w.heap.size,1,none⟩=some (.slice ao es.length cap):=by rw [hW];go_simp
 have c2:W.cell? ⟨w.heap.size+1,3,none⟩=some (.slice none 0 0):=by rw [hW];go_simp
 have HW:=Bm0 hW;have HR:=Bm0 (Gz ⟨n,es⟩ ao cap W (show es.length<=9223372036854775807 by omega) (hc.go hbw));have HC:=Bm0 (hc.go hbw);have HB:=Bm0 hbw;have HSZ:=Bm0 (show w.heap.size<W.heap.size by rw [hW];simp;omega);rw [hg] at HR;simp only at HR;unfold Ww;clear hW hc hbw hg
 go_enter Tryz.func120,Tryz.ntmps120
 go_upto_region 1 with (fail)
 rw [<-HW.out]
 go_upto_region 5 with (go_at_call 78;refine HR.out.mono ?_;rintro e w1 ⟨rfl,hb1⟩;(have d1:=Bm1 hb1 c1);(have d2:=Bm1 hb1 c2);(have HC1:=Bm0 (HC.out.go hb1));(have HB1:=Bm0 hb1);clear hb1)
 clear c0 c1 c2
 go_loopg [5,6] es.length (fun gm v5 v6 wr=>∃k:Nat,k<=es.length/\es.length-k<=gm/\v6=.int .i64 k/\Aside (wr.ownsRow w1.heap.size 37 1 v5 k (Td (es.take k)))/\Aside (Below w1.heap.size w1 wr))
 case atStart=>exact ⟨0,Bm3 _,by omega,rfl,by rw [List.take_zero];exact World.ownsRow_nil _ _ _ _,Below.refl _ _⟩
 case round=>
  obtain ⟨k,hk,hg,rfl,HO,HBr⟩:=hrel;have e1:=Bm1 HBr.out d1;have e2:=Bm1 HBr.out d2
  by_cases hlt:k<es.length
  ·have hlt3:(k:Int)<(es.length:Int):=by omega
   have hk0:(0:Int)<=(k:Int):=by omega
   obtain ⟨qb,qo,rfl,y0,y1,y2⟩:=(HC1.out.go HBr.out).edge hlt;have HST:=Bm0 (Al8 hlt);generalize es[k]=x at*;generalize Td (es.take k)=row at*;clear y0 y1
   go_wp2_with (at_builtin;go_must (refine Ca w1.heap.size 37 _ 1 8 Sk Tryz.underlying60 _ k row ⟨wr.heap.size,0,none⟩ 1 1 [.int .u64 x.w] rfl rfl (World.ownsRow.alloc HO.out _) (cell_one_new _ _ _) (Cd rfl) ⟨rfl,by decide,by omega,by omega,(by have:=HBr.out.size;simp;omega)⟩ ?_);intro g6 cap6 w6 hown6 hgrow6 hbl6 hat6 hlt6;(have HO6:=Bm0 hown6);(have HB6:=Bm0 ((HBr.out.al _).trans hbl6));clear hown6 hgrow6 hbl6 hat6 hlt6)
   go_roundg (es.length-(k+1))
   case measure=>omega
   case rel=>exact ⟨k+1,by omega,Bm2 _,by go_num,by rw [HST.out];exact HO6.out,HB6.out⟩
  ·obtain rfl:k=es.length:=by omega
   go_wp2
   obtain ⟨ao9,cap9,rfl,hce9⟩:=Cel.of_owns HO.out
   go_ret
   rw [Bq6] at hce9;exact ⟨ao9,cap9,rfl,hce9,HB.out.st (HB1.out.st HBr.out),fun j hj=>by have:=(HO.out.lt j hj).1;have:=HB1.out.size;have:=HSZ.out;omega⟩
end Go.Proofs.YteaaapdjplbljaaGreat
