/- Parts; no condition. -/
import Derived.Test.YteaaapdjplbljaaGreatVc45
set_option linter.unusedVariables false
set_option linter.unusedSimpArgs false
set_option linter.unnecessarySimpa false
set_option maxRecDepth 100000
set_option maxHeartbeats 8000000
namespace Go.Proofs.YteaaapdjplbljaaGreat
namespace Vi
open Go Go.Proofs Go.RowKit Go.Shelf Hp Ch Ad Ro Dj
theorem Aw5:Gq Tryz.prog 63 (.agg #[.int .i64 0,.slice none 0 0,.int .u64 0,.int .i64 0]) 4 48:=⟨by kernel_rfl,rfl,by decide⟩
theorem Av8 (w:World) (a b c d:Value) (T:TypeId):∀j u,[a,b,c,d][j]? =some u->(w.alloc (.cells #[a,b,c,d] T)).cell? ((⟨w.heap.size,0,none⟩:Addr).add j)=some u:=by
 intro j u hu;rw [Addr.add_lit]
 match j with
 |0=>cases hu;go_simp
 |1=>cases hu;go_simp
 |2=>cases hu;go_simp
 |3=>cases hu;go_simp
 |j+4=>simp at hu
theorem Aw3 (x:VD):∀u∈Jj x,u.oneCell'=true:=by
 intro u hu;unfold Jj at hu;simp only [Bl7,List.not_mem_nil,or_false] at hu
 rcases hu with rfl|rfl|rfl|rfl<;>rfl
def ByX (n:Nat) (es:List EdgeD) (s t v:Int) (x:VD):Prop:=∃k,ByIs n es s v t x.v x.es x.w x.c k
def ByL (n:Nat) (es:List EdgeD) (s t:Int) (L:List Int) (ys:List VD):Prop:=ys.length=L.length/\∀i (h:i<ys.length) (h':i<L.length),ByX n es s t L[i] ys[i]
theorem ByL.snoc {n:Nat} {es:List EdgeD} {s t v:Int} {L:List Int} {ys:List VD} {x:VD} (h:ByL n es s t L ys) (hx:ByX n es s t v x):ByL n es s t (L++[v]) (ys++[x]):=by
 refine ⟨by simp [h.1],fun i h1 h2=>?_⟩
 by_cases hi:i<ys.length
 ·have hi2:i<L.length:=by rw [<-h.1];exact hi
  rw [List.getElem_append_left hi,List.getElem_append_left hi2];exact h.2 i hi hi2
 ·have hi2:¬i<L.length:=by rw [<-h.1];exact hi
  rw [List.getElem_append_right (by omega),List.getElem_append_right (by omega)]
  simpa using hx
def RowsV (w:World) (v4:Value) (ys:List VD):Prop:=∀x∈ys,Cel w x.ao (x.es.map Aj)/\∀y,x.ao=some y->x.es≠[]->y.block<w.heap.size/\v4.ownBlock≠some y.block
theorem RowsV.off {w w':World} {v4 v5:Value} {ys:List VD} (h:RowsV w v4 ys) (ho:OffX (fun k=>v4.ownBlock=some k) w w') (hv:v5.ownBlock=v4.ownBlock\/∃g,v5.ownBlock=some g/\w.heap.size<=g):RowsV w' v5 ys:=fun x hx=>by
 obtain ⟨h1,h2⟩:=h x hx;refine ⟨fun i u hu=>?_,fun y hy hne=>?_⟩
 ·have hne:x.es≠[]:=by intro e;rw [e] at hu;cases hu
  obtain ⟨b,o,e,h3⟩:=h1 i u hu;exact ⟨b,o,e,ho.cell h3 (h2 _ e hne).2⟩
 ·obtain ⟨h3,h4⟩:=h2 y hy hne
  refine ⟨by have:=ho.size;omega,fun e=>?_⟩
  rcases hv with hv|⟨g,hg,hg2⟩
  ·exact h4 (hv▸e)
  ·rw [hg] at e
   have:=Bl4 e;omega
theorem RowsV.snoc {w:World} {v4:Value} {ys:List VD} {x:VD} (h:RowsV w v4 ys) (h1:Cel w x.ao (x.es.map Aj)) (h2:∀y,x.ao=some y->v4.ownBlock≠some y.block):RowsV w v4 (ys++[x]):=fun z hz=>by
 rcases Bl8.1 hz with hz|hz
 ·exact h z hz
 ·obtain rfl:=Bk2.1 hz
  refine ⟨h1,fun y hy hne=>⟨?_,h2 y hy⟩⟩;have h0:0<z.es.length:=List.length_pos_iff.2 hne;obtain ⟨b,o,e,h3⟩:=h1 0 (Aj z.es[0]) (by rw [Bk4,Bj0 h0];rfl);rw [hy] at e
  cases e
  exact Bj5 _ _ h3
theorem RowsV.go {w w':World} {v4:Value} {ys:List VD} (h:RowsV w v4 ys) (hb:Below w.heap.size w w'):RowsV w' v4 ys:=h.off (.of_below hb) (.inl rfl)
def Ae2 (n:Nat) (es:List EdgeD) (ro:List Int) (s t:Int) (w:World) (e:Ending) (w':World):Prop:=
 ∃(ao:Option Addr) (cap:Nat) (xs:List VD) (k:Int),e=.returned (.tuple #[.slice ao xs.length cap,.int .i64 k])/\Cel w' ao (Cd xs)/\(∀x∈xs,Cel w' x.ao (x.es.map Aj))/\Below w.heap.size w w'/\
  ∃L,VnIs n es ro s t L k/\∃ys,ByL n es s t L ys/\xs=Bi ys
theorem Ai7 (hb n:Nat) (es:List EdgeD) (R:List Int) (S:List SC) (ro:List Int) (s t:Int) (w:World) (h:BH w hb n es R S ro) (hg:Ak ⟨(n:Int),es⟩=0) (hm:es.length<=50000):
  Calls Tryz.prog 39 #[.pointer (some ⟨hb,0,none⟩),.int .i64 s,.int .i64 t] w (Ae2 n es ro s t w):=by
 have HN:=Bi5 (Oo hb n es R S ro s t w h);have HGR:=Bi5 (fun U (hz:Below w.heap.size w U)=>Ab1 hb n es R S _ _ U (h.go hz).mem);have hle:=h.le;have HBY:=Bi5 (fun (ga:Option Addr) (gc:Nat) (v:Int) U (hc:Cel U ga (Ax es))=>Ax5 n es ga gc s v t U hg (by omega) hm hc);unfold Vv at HN;unfold Ol at HGR;unfold Ln Us at HBY;unfold Ae2;clear h hg
 go_enter Tryz.func39,Tryz.ntmps39
 go_upto_region 2 with (go_at_call 38;refine HN.out.mono ?_;rintro e w1 ⟨na,nc,L,k,rfl,h1,h2,h3⟩;(have HL1:=Bi5 h1);(have HB1:=Bi5 h2);(have HI:=Bi5 h3);clear h1 h2 h3)
 by_cases hk:k=0
 ·subst hk
  have hLl:(L.length:Int)<=12:=by
   rcases HI.out with ⟨_,_,_,_,_,h,_⟩|⟨h,_⟩
   ·omega
   ·exact absurd rfl h
  go_upto_region 5 with (go_at_call 89;refine (HGR.out _ HB1.out).mono ?_;rintro e w2 ⟨ga,gc,rfl,h1,h2,h3⟩;(have HC2:=Bi5 h1);(have HB2:=Bi5 (HB1.out.st h2));(have HL2:=Bi5 (HL1.out.go h2));clear h1 h2 h3)
  obtain ⟨W2,hW2⟩:∃W2,W2=w2.alloc (Obj.cells #[.int .i64 (n:Int),.slice ga es.length gc] 24):=⟨_,rfl⟩;rw [<-hW2];have hb2:Below w2.heap.size w2 W2:=by rw [hW2];exact Below.of_al _ _
  have HBw:=Bi5 (HB2.out.st hb2);have HCW:=Bi5 (HC2.out.go hb2);have HLW:=Bi5 (HL2.out.go hb2);have c0:W2.cell? ⟨w2.heap.size,0,none⟩=some (.int .i64 (n:Int)):=by rw [hW2];go_simp
  have c1:W2.cell? ⟨w2.heap.size,1,none⟩=some (.slice ga es.length gc):=by rw [hW2];go_simp
  clear hW2 hb2
  go_wp2
  go_loopg [6,28] L.length (fun gg v6 v28 wr=>∃(i:Nat) (ys:List VD),i<=L.length/\L.length-i<=gg/\v28=.int .i64 i/\Aside (ys.length=i)/\Aside (wr.ownsRow W2.heap.size 63 4 v6 ys.length (Cd ys))/\Aside (ByL n es s t (L.take i) ys)/\Aside (RowsV wr v6 ys)/\Aside (Below W2.heap.size W2 wr))
  case atStart=>exact ⟨0,[],Bi8 _,by omega,rfl,(show ([]:List VD).length=0 from rfl),World.ownsRow_nil _ _ _ _,(show ByL n es s t (L.take 0) [] from ⟨by simp,fun i h=>absurd h (Nat.not_lt_zero _)⟩),(show RowsV W2 _ [] from fun x hx=>nomatch hx),Below.refl _ _⟩
  case round=>
   obtain ⟨i,ys,hi,hgg,rfl,hyl,HO,HY,HR,HB⟩:=hrel;have HYL:=Bi5 hyl.out;clear hyl
   by_cases hlt:i<L.length
   ·have hlt2:(i:Int)<(L.length:Int):=by omega
    have hi0:(0:Int)<=(i:Int):=by omega
    obtain ⟨qb,qo,rfl,y0⟩:=(HLW.out.go HB.out).at hlt;have HTK:=Bi5 (Bk3 hlt);have d0:=Bi6 HB.out c0;have d1:=Bi6 HB.out c1;have HCr:=Bi5 (HCW.out.go HB.out);generalize L[i]=v at*
    go_upto_region 9 with (go_at_call 33;refine (HBY.out ga gc v _ HCr.out).mono ?_;rintro e w3 ⟨la,l,lc,V,x,c,k,rfl,h1,h2,h3,h4⟩;(have HC3:=Bi5 h1);(have HB3:=Bi5 h2);(have HX3:=Bi5 h3);(have HN3:=Bi5 h4);clear h1 h2 h3 h4)
    obtain ⟨W3,hW3⟩:∃W3,W3=w3.alloc (Obj.cells #[.int .i64 V,.slice la l.length lc,.int .u64 x,.int .i64 c] 63):=⟨_,rfl⟩;rw [<-hW3];have hb3:Below w3.heap.size w3 W3:=by rw [hW3];exact Below.of_al _ _
    have HBX:=Bi5 (HB3.out.st hb3);have HO3:=Bi5 (Af HO.out HBX.out);have z0:W3.cell? ⟨w3.heap.size,0,none⟩=some (.int .i64 V):=by rw [hW3];go_simp
    have z1:W3.cell? ⟨w3.heap.size,1,none⟩=some (.slice la l.length lc):=by rw [hW3];go_simp
    have z2:W3.cell? ⟨w3.heap.size,2,none⟩=some (.int .u64 x):=by rw [hW3];go_simp
    have z3:W3.cell? ⟨w3.heap.size,3,none⟩=some (.int .i64 c):=by rw [hW3];go_simp
    have HR3:=Bi5 (show RowsV W3 u6 (ys++[⟨V,la,lc,l,x,c⟩]) from (HR.out.go HBX.out).snoc (HC3.out.go hb3) (fun y hy e=>by
     have h5:=HN3.out y hy;have h6:=(HO.out.lt _ e).2;omega))
    have HYX:=Bi5 (show ByL n es s t (L.take (i+1)) (ys++[⟨V,la,lc,l,x,c⟩]) by rw [HTK.out];exact HY.out.snoc ⟨k,HX3.out⟩);have HBW3:=Bi5 (HB.out.st HBX.out);have hyl2:ys.length<=12:=by have:=HYL.out;omega
    clear hW3 hb3 d0 d1
    go_wp2_with (at_builtin;go_must (refine Ce W2.heap.size 63 _ 4 48 Aw5 Tryz.underlying76 _ ys.length (Cd ys) ⟨W3.heap.size,0,none⟩ 1 1 [.int .i64 V,.slice la l.length lc,.int .u64 x,.int .i64 c] rfl rfl (World.ownsRow.alloc HO3.out _) (Av8 _ _ _ _ _ _) (Aw3 ⟨V,la,lc,l,x,c⟩) ⟨rfl,by decide,(by omega),(by omega),(by have:=HBW3.out.size;simp;omega)⟩ ?_);intro g8 cap8 w8 hown8 hgr8 hbl8 hat8 hlt8;(have HO8:=Bi5 hown8);(have HB8:=Bi5 ((HBW3.out.al _).trans hbl8));(have HR8:=Bi5 ((HR3.out.go (Below.of_al W3 (Obj.cells #[.int .i64 V,.slice la l.length lc,.int .u64 x,.int .i64 c] 63))).off (v5:=.slice (some ⟨g8,0,none⟩) (ys.length+1) cap8) (Ab6 hgr8) (by rcases hat8 with h|h;exact .inl h.symm;exact .inr ⟨g8,rfl,by rw [h];exact Bi7 _⟩)));clear hown8 hgr8 hbl8 hat8 hlt8)
    go_roundg (L.length-(i+1))
    case measure=>omega
    case rel=>
     refine ⟨i+1,ys++[(⟨V,la,lc,l,x,c⟩:VD)],by omega,Bi7 _,by go_num,(show (ys++[(⟨V,la,lc,l,x,c⟩:VD)]).length=i+1 by simp [HYL.out]),?_,HYX.out,HR8.out,HB8.out⟩;rw [Bl5,List.length_singleton,Uc];exact HO8.out
   ·obtain rfl:i=L.length:=by omega
    have HY9:=Bi5 (show ByL n es s t L ys by have:=HY.out;rw [Bn1] at this;exact this);obtain ⟨ao9,cap9,e9,-⟩:=Cel.of_owns HO.out;subst e9;have hl19:ys.length<=19:=by have:=HYL.out;omega
    have HSR:=Bi5 (Aj2 wr W2.heap.size ao9 cap9 ys hl19 HO.out);unfold Ap7 at HSR;have HSL:=Bi5 (Jq ys);clear HY;obtain ⟨m,hm9⟩:∃m,m=ys.length:=⟨_,rfl⟩
    go_wp2_with (go_at_call 90;refine HSR.out.mono ?_;rintro e w4 ⟨rfl,h1,h2⟩;(have HO4:=Bi5 h1);(have HX4:=Bi5 h2);clear h1 h2)
    refine bodyPost_ret (v:=.tuple #[.slice ao9 ys.length cap9,.int .i64 0]) (by simp [results,Tryz.results39,go_sem];try rfl) rfl ?_;have hcl:Cel w4 ao9 (Cd (Bi ys)):=by
     obtain ⟨a,c,e,hc⟩:=Cel.of_owns HO4.out
     cases e
     exact hc
    have hrw:=HR.out.off HX4.out (.inl rfl);have hbw:Below W2.heap.size W2 w4:=HB.out.trans (HX4.out.below HB.out.size (fun k e=>(HO.out.lt k e).1));exact ⟨ao9,cap9,Bi ys,0,by rw [HSL.out],hcl,fun x hx=>(hrw x ((Jp ys).1 hx)).1,HBw.out.st hbw,L,HI.out,ys,HY9.out,rfl⟩
 ·have hk2:(k != 0)=true:=by simpa using hk
  have hL:L=[]:=by
   rcases HI.out with ⟨h,_⟩|⟨_,h,_⟩
   ·exact absurd h hk
   ·exact h
  subst hL
  go_wp2
  refine bodyPost_ret (v:=.tuple #[.slice none 0 0,.int .i64 k]) (by simp [results,Tryz.results39,go_sem];try rfl) rfl ?_;exact ⟨none,0,[],k,rfl,Cel.nil _ _,(fun x hx=>nomatch hx),HB1.out,[],HI.out,[],⟨rfl,fun i h=>absurd h (Nat.not_lt_zero _)⟩,rfl⟩
end Vi
end Go.Proofs.YteaaapdjplbljaaGreat
