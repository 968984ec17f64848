/- Parts; no condition. -/
import Derived.Test.YteaaapdjplbljaaGreatVa25
import Derived.Lib.AppendZeros
set_option linter.unusedVariables false
set_option linter.unusedSimpArgs false
set_option linter.unnecessarySimpa false
set_option maxRecDepth 100000
set_option maxHeartbeats 8000000
namespace Go.Proofs.YteaaapdjplbljaaGreat
section
open Go Go.Proofs Go.RowKit Go.Shelf Hp Ch
def Ec (bk:Bool):Value:=.agg #[.bool bk,.slice none 0 0,.slice none 0 0,.slice none 0 0,.int .u64 0]
theorem Za (f:Value) (w:World):Calls Tryz.prog 242 #[.slice none 0 0,f] w fun e w'=>e=.returned (.int .i64 (-1))/\w=w':=by
 go_enter Tryz.func242,Tryz.ntmps242
 go_wp2
 refine wp_loop_rounds 1 ?_;rw [rounds_succ]
 go_wp2
 go_ret
 exact ⟨rfl,rfl⟩
theorem Sk (f:Value) (w:World):Calls Tryz.prog 186 #[.slice none 0 0,f] w fun e w'=>e=.returned (.bool false)/\w=w':=by
 have HI:=Bj3 (Za f w);have h9:decide ((0:Int)<=-1)=false:=by decide
 go_enter Tryz.func186,Tryz.ntmps186
 go_wp2_with (go_at_call 242;refine HI.out.mono ?_;rintro e w1 ⟨rfl,hw1⟩;obtain rfl:=hw1.symm)
 go_ret
 exact ⟨rfl,rfl⟩
theorem Pn (n:Nat) (es:List EdgeD) (ao:Option Addr) (cap:Nat) (s:Int) (bk:Bool) (w:World) (hg:Aj ⟨(n:Int),es⟩=0) (hes:es.length<=1000000) (hs:Ac n s) (hc:Cel w ao (Ar es)):
  Calls Tryz.prog 133 #[.agg #[.int .i64 (n:Int),.slice ao es.length cap],.int .i64 s,Ec bk] w fun e w'=>e=.returned (.int .i64 0)/\Below w.heap.size w w':=by
 obtain ⟨W,hW⟩:∃W,W=(w.alloc (Obj.cells #[.int .i64 (n:Int),.slice ao es.length cap] 24)).alloc (Obj.cells #[.bool bk,.slice none 0 0,.slice none 0 0,.slice none 0 0,.int .u64 0] 135):=⟨_,rfl⟩;have hbw:Below w.heap.size w W:=by rw [hW];exact (Below.of_al _ _).al _
 have c0:W.cell? ⟨w.heap.size,0,none⟩=some (.int .i64 (n:Int)):=by rw [hW];go_simp
 have c1:W.cell? ⟨w.heap.size,1,none⟩=some (.slice ao es.length cap):=by rw [hW];go_simp
 have c5:W.cell? ⟨w.heap.size+1,3,none⟩=some (.slice none 0 0):=by rw [hW];go_simp
 have HR:=Bj3 (Dh ⟨(n:Int),es⟩ ao cap W (by show es.length<=_;omega) (hc.go hbw));rw [hg] at HR;have HND:=Bj3 (fun U=>Hl ⟨(n:Int),es⟩ ao cap s U);rw [show Dc (⟨(n:Int),es⟩:GD).n s=true by unfold Dc;rw [decide_eq_true hs.1,decide_eq_true hs.2];rfl] at HND;have HCF:=Bj3 Sk;have HW:=Bj3 hW;have HB:=Bj3 hbw;unfold Ec;clear hW hbw hc hg hs
 go_enter Tryz.func133,Tryz.ntmps133
 go_upto_region 1 with (fail)
 rw [<-HW.out]
 go_wp2_with (first
  |(go_at_call 72;refine HR.out.mono ?_;rintro e w1 ⟨rfl,hb1⟩;(have HB1:=Bj3 hb1);(have x0:=Bj4 hb1 c0);(have x1:=Bj4 hb1 c1);(have x5:=Bj4 hb1 c5);clear hb1)
  |(go_at_call 75;refine (HND.out _).mono ?_;rintro e w2 ⟨rfl,hb2⟩;(have HB2:=Bj3 (HB1.out.st hb2));(have y5:=Bj4 hb2 x5);clear hb2)
  |(go_at_call 186;refine (HCF.out _ _).mono ?_;rintro e w3 ⟨rfl,hw3⟩;obtain rfl:=hw3.symm))
 go_ret
 exact ⟨rfl,HB.out.st HB2.out⟩
theorem Rh {w:World} {B B' n:Nat} {e:TypeId} {v:Value} {xs:List Value} (h:w.ownsRow B e 1 v n xs) (hB:B'<=B):w.ownsRow B' e 1 v n xs:=⟨h.1,h.2.imp id (fun ⟨g,c,cur,e,h1,r⟩=>⟨g,c,cur,e,by omega,r⟩)⟩
def Hv (es:List EdgeD):List Int:=es.map (·.w)
theorem Li (n:Nat) (es:List EdgeD) (ao:Option Addr) (cap:Nat) (bk:Bool) (w:World) (hg:Aj ⟨(n:Int),es⟩=0) (hes:es.length<=1000000) (hc:Cel w ao (Ar es)):
  Calls Tryz.prog 135 #[.agg #[.int .i64 (n:Int),.slice ao es.length cap],Ec bk] w fun e w'=>∃a c,e=.returned (.slice a es.length c)/\w'.ownsRow w.heap.size 37 1 (.slice a es.length c) es.length ((Hv es).map Bi)/\Below w.heap.size w w':=by
 obtain ⟨W,hW⟩:∃W,W=(w.alloc (Obj.cells #[.int .i64 (n:Int),.slice ao es.length cap] 24)).alloc (Obj.cells #[.bool bk,.slice none 0 0,.slice none 0 0,.slice none 0 0,.int .u64 0] 135):=⟨_,rfl⟩;have hbw:Below w.heap.size w W:=by rw [hW];exact (Below.of_al _ _).al _
 have c0:W.cell? ⟨w.heap.size,0,none⟩=some (.int .i64 (n:Int)):=by rw [hW];go_simp
 have c1:W.cell? ⟨w.heap.size,1,none⟩=some (.slice ao es.length cap):=by rw [hW];go_simp
 have c5:W.cell? ⟨w.heap.size+1,3,none⟩=some (.slice none 0 0):=by rw [hW];go_simp
 have HR:=Bj3 (Dh ⟨(n:Int),es⟩ ao cap W (by show es.length<=_;omega) (hc.go hbw));rw [hg] at HR;have HC:=Bj3 (hc.go hbw);have HW:=Bj3 hW;have HB:=Bj3 hbw;have hel:(es.length:Int)<=1000000:=by omega
 unfold Ec;clear hW hbw hc hg
 go_enter Tryz.func135,Tryz.ntmps135
 go_upto_region 1 with (fail)
 rw [<-HW.out]
 go_upto_region 6 with (go_at_call 72;refine HR.out.mono ?_;rintro e w1 ⟨rfl,hb1⟩;(have HB1:=Bj3 hb1);(have x1:=Bj4 hb1 c1);(have x5:=Bj4 hb1 c5);clear hb1)
 clear c0 c1 c5
 go_loopg [4,35] es.length (fun gg v4 v35 wr=>∃k:Nat,k<=es.length/\es.length-k<=gg/\v35=.int .i64 (k:Int)/\Aside (wr.ownsRow W.heap.size 37 1 v4 k (((Hv es).take k).map Bi))/\Aside (Below W.heap.size W wr))
 case atStart=>exact ⟨0,Bj6 _,by omega,rfl,World.ownsRow_nil _ _ _ _,HB1.out⟩
 case round=>
  obtain ⟨k,hk,hgg,rfl,h1,h2⟩:=hrel;have HOW:=Bj3 h1.out;have HBR:=Bj3 h2.out;clear h1 h2
  by_cases hlt:k<es.length
  ·have hlt2:(k:Int)<(es.length:Int):=by omega
   have hk0:(0:Int)<=(k:Int):=by omega
   obtain ⟨eb,eo,hea,a0,a1,a2⟩:=(HC.out.go HBR.out).edge hlt;have HT:=Bj3 (show (Hv es).take (k+1)=(Hv es).take k++[es[k].w] by unfold Hv;rw [<-List.map_take,<-List.map_take,Bl1 hlt,Bn4];rfl);generalize es[k]=x at*;obtain ⟨xf,xt,xw⟩:=x;simp only at a0 a1 a2 HT;subst hea
   go_upto_region 8 with (fail)
   obtain ⟨W1,hW1⟩:∃W1,W1=wr.alloc (Obj.cells #[.int .i64 xf,.int .i64 xt,.int .u64 xw] 109):=⟨_,rfl⟩;have hb1:Below wr.heap.size wr W1:=by rw [hW1];exact Below.of_al _ _
   have x2:W1.cell? ⟨wr.heap.size,2,none⟩=some (.int .u64 xw):=by rw [hW1];go_simp
   rw [<-hW1];have hown:=Ag HOW.out (hb1.st (Below.of_al W1 (Obj.cells #[.int .u64 xw] 37)));obtain ⟨g6,c6,w6,r6,o6,p6,g7,t6,l6⟩:=Mj (P:=Tryz.prog) 60 60 W.heap.size 37 _ 8 Vf Tryz.underlying60 u4 k (((Hv es).take k).map Bi) hown ⟨W1.heap.size,0,none⟩ 1 (.int .u64 xw) (Bg7 (by go_simp)) rfl ⟨by omega,by omega,by have:=(HBR.out.st hb1).size;simp;omega⟩;have HR6:=Bj3 r6;have HO6:=Bj3 o6;have HB6:=Bj3 (show Below W.heap.size W w6 from by
    have h1:=HBR.out.st hb1;exact h1.trans (((Below.of_al W1 (Obj.cells #[.int .u64 xw] 37)).mono h1.size).trans ((Ax1 g7).below (by have:=h1.size;simp;omega) (fun k h=>(Uz hown k h).1))))
   clear hW1 hown r6 o6 p6 g7 t6 l6 HOW a0 a1 a2;generalize wr.heap.size=zz at*
   go_wp2_with (at_builtin;refine Lib.wpList_append_run _ rfl _ _ _ _ rfl _ _ rfl rfl _ _ HR6.out ?_)
   go_roundg (es.length-(k+1))
   case measure=>omega
   case rel=>exact ⟨k+1,by omega,Bj5 _,by go_num,by rw [HT.out,Bn4];exact HO6.out,HB6.out⟩
  ·obtain rfl:k=es.length:=by omega
   obtain ⟨a6,c6,e6,h6⟩:=Cel.of_owns HOW.out;subst e6;have HT:=Bj3 (show (Hv es).take es.length=Hv es from List.take_of_length_le (by unfold Hv;simp));clear h6
   go_wp2
   go_ret
   rw [HT.out] at HOW;exact ⟨a6,c6,rfl,Rh HOW.out HB.out.size,HB.out.st HBR.out⟩
end
section
open Go Go.Proofs Go.RowKit Go.Shelf Hp Ch
def Er (n:Nat):Nat:=(n+63) / 64
def BitZ (W:World) (b a n:Nat):Prop:=W.cell? ⟨b,0,none⟩=some (.int .i64 (n:Int))/\W.cell? ⟨b,1,none⟩=some (.slice (some ⟨a,0,none⟩) (Er n) (Er n))/\(∀i,i<Er n->W.cell? ⟨a,i,none⟩=some (.int .u64 0))/\b<W.heap.size/\a<W.heap.size
theorem BitZ.kept {W W':World} {b a n:Nat} (h:BitZ W b a n) (hz:W.heap.size<=W'.heap.size) (hb:W'.heap[b]? =W.heap[b]?) (ha:W'.heap[a]? =W.heap[a]?):BitZ W' b a n:=by
 obtain ⟨h1,h2,h3,h4,h5⟩:=h;exact ⟨(Bm0 (w:=W) (w':=W') (a:=⟨b,0,none⟩) hb).trans h1,(Bm0 (w:=W) (w':=W') (a:=⟨b,1,none⟩) hb).trans h2,fun i hi=>(Bm0 (w:=W) (w':=W') (a:=⟨a,i,none⟩) ha).trans (h3 i hi),by omega,by omega⟩
theorem BitZ.go {W W':World} {b a n:Nat} (h:BitZ W b a n) (hb:Below W.heap.size W W'):BitZ W' b a n:=h.kept hb.size (hb.block _ h.2.2.2.1) (hb.block _ h.2.2.2.2)
def Qj (n:Nat) (w:World) (e:Ending) (w':World):Prop:=∃b a,e=.returned (.pointer (some ⟨b,0,none⟩))/\BitZ w' b a n/\w.heap.size<=b/\w.heap.size<=a/\Below w.heap.size w w'
theorem Aq7 (n:Nat) (hn:n<=65536) (w:World):
  Calls Tryz.prog 244 #[.int .i64 (n:Int)] w (Qj n w):=by
 have h1:¬(n:Int)<0:=by omega
 have h2:¬(65536:Int)<(n:Int):=by omega
 have h3:(0:Int)<=(n:Int):=by omega
 have hq:((n:Int)+64-1).tdiv 64=((Er n:Nat):Int):=by unfold Er;rw [show (n:Int)+64-1=((n+63:Nat):Int) by omega];exact rfl
 have hk:Er n<=60000:=by unfold Er;omega
 obtain ⟨k,hk9⟩:∃k,k=Er n:=⟨_,rfl⟩;rw [<-hk9] at hq hk;have HK:=Bj3 hk9.symm;clear hk9
 go_enter Tryz.func244,Tryz.ntmps244
 go_wp2_with (at_make;go_must ((with_reducible refine Dx 0 37 _ 1 8 Vf Tryz.underlying60 k ?_ ?_ ?_ ?_ ?_ ?_ ?_ ?_);rotate_left 4;(· rfl);(· rfl);(· exact ⟨by simp,by simp,by omega,by omega,by simp⟩);intro w1 hown hbl hsz1;(have HO1:=Bj3 hown;have HB1:=Bj3 hbl;clear hown hbl)))
 go_ret
 have hb2:Below w1.heap.size w1 (w1.alloc (Obj.cells #[.int .i64 (n:Int),.slice (some ⟨w.heap.size,0,none⟩) k k] 337)):=Below.of_al _ _;refine ⟨w1.heap.size,w.heap.size,rfl,⟨by go_simp,by rw [HK.out];go_simp,fun i hi=>?_,by simp,by simp;omega⟩,by omega,Bj5 _,HB1.out.al _⟩;rw [HK.out] at hi;obtain ⟨a',c',e',hc'⟩:=Cel.of_owns HO1.out
 cases e'
 obtain ⟨b',o',e2,h9⟩:=hc' i (.int .u64 0) (by rw [show (Value.int IntKind.u64 0).cells=#[Value.int .u64 0] from rfl,Nat.mul_one,toList_madeCells_one,Bn3];simp [hi])
 cases e2
 rw [Nat.zero_add] at h9;exact Bj4 hb2 h9
theorem Af6 (b a n:Nat) (w:World) (h:BitZ w b a n):
  Calls Tryz.prog 246 #[.pointer (some ⟨b,0,none⟩)] w fun e w'=>e=.returned (.int .i64 (n:Int))/\w=w':=by
 obtain ⟨h1,-⟩:=h
 go_enter Tryz.func246,Tryz.ntmps246
 go_wp2
 go_ret
 exact ⟨rfl,rfl⟩
theorem Ou (b a n:Nat) (i:Int) (w:World) (h:BitZ w b a n) (hn:n<=65536) (h0:0<=i) (h1:i<(n:Int)):
  Calls Tryz.prog 193 #[.pointer (some ⟨b,0,none⟩),.int .i64 i] w fun e w'=>e=.returned (.bool false)/\w=w':=by
 have HS:=Bj3 (Af6 b a n w h);obtain ⟨c0,c1,c2,-⟩:=h;obtain ⟨j,rfl⟩:∃j:Nat,i=(j:Int):=⟨i.toNat,by omega⟩;have hj:j / 64<Er n:=by unfold Er;omega
 have hd:((j:Int)).tdiv 64=((j / 64:Nat):Int):=rfl;have hm:((j:Int)).tmod 64=((j % 64:Nat):Int):=rfl;have hm2:j % 64<64:=Nat.mod_lt _ (by decide);have c3:=c2 _ hj;have hk9:Er n<=1024:=by unfold Er;omega
 generalize Er n=k at*;generalize j / 64=q at*;generalize j % 64=r at*;have hq0:(0:Int)<=(q:Int):=by omega
 have hq1:(q:Int)<(k:Int):=by omega
 have hr0:(0:Int)<=(r:Int):=by omega
 have hqw:wrap64 (q:Int)=(q:Int):=by unfold wrap64;omega
 have hrw:wrap64 (r:Int)=(r:Int):=by unfold wrap64;omega
 have hb:(bits BinOp.and IntKind.u64 0 1==1)=false:=by decide
 clear c2
 go_enter Tryz.func193,Tryz.ntmps193
 go_wp2_with (go_at_call 246;refine HS.out.mono ?_;rintro e w1 ⟨rfl,hw1⟩;obtain rfl:=hw1.symm)
 go_ret
 exact ⟨rfl,rfl⟩
theorem Zr (n:Nat) (hn:n<=65536) (w:World):
  Calls Tryz.prog 192 #[.int .i64 (n:Int),.slice none 0 0] w (Qj n w):=by
 have hmf:∀(fn:Fn) (first cap:Array Value) (w:World),(Instr.makeFunc fn first cap).run Tryz.prog w=.ok (.func fn first cap) w:=fun _ _ _ _=>rfl;have HN:=Bj3 (Aq7 n hn w);unfold Qj at HN
 go_enter Tryz.func192,Tryz.ntmps192
 go_upto_region 4 with (go_at_call 244;refine HN.out.mono ?_;rintro e w1 ⟨b,a,rfl,h1⟩;(have HB1:=Bj3 h1);clear h1)
 refine wp_loop_rounds 1 ?_;rw [rounds_succ]
 go_wp2
 go_ret
 exact ⟨_,_,rfl,HB1.out⟩
end
section
namespace Dj
open Go Go.Proofs Go.RowKit Go.Shelf Hp Ch
structure DjK where
 (B ab lo hi nb na eb ea xb sb rb hp n wc:Nat)
 (es:List EdgeD)
 (bk:Bool)
 (wa:Option Addr)
 (va:Value)
def DjK.xs (K:DjK):List Value:=[.pointer (some ⟨K.ab,0,none⟩),.bool K.bk,.slice none 0 0,.slice none 0 0,.slice none 0 0,.int .u64 0,.slice K.wa K.es.length K.wc,.pointer (some ⟨K.nb,0,none⟩),.pointer (some ⟨K.eb,0,none⟩),.pointer (some ⟨K.sb,0,none⟩),.pointer (some ⟨K.hp,0,none⟩)]
def DjK.C (K:DjK) (k:Nat):Prop:=k=K.xb\/(K.lo<=k/\k<K.hi)\/k=K.nb\/k=K.na\/k=K.eb\/k=K.ea\/(Value.slice K.wa K.es.length K.wc).ownBlock=some k
structure DjK.Con (K:DjK) (W:World):Prop where
 bx:PB W K.xb K.xs
 adj:Ad.AdjM W K.lo K.hi K.ab K.n K.es
 nd:BitZ W K.nb K.na K.n
 ed:BitZ W K.eb K.ea K.es.length
 ws:W.ownsRow 0 37 1 (.slice K.wa K.es.length K.wc) K.es.length ((Hv K.es).map Bi)
 hi:K.hi<=W.heap.size
theorem DjK.Con.lt {K:DjK} {W:World} (h:K.Con W):∀k,K.C k->k<W.heap.size:=by
 rintro k (rfl|hk|rfl|rfl|rfl|rfl|hk)
 ·exact PB.lt (x:=.pointer (some ⟨K.ab,0,none⟩)) (xs:=K.xs.tail) h.bx
 ·have:=h.hi
  omega
 ·exact h.nd.2.2.2.1
 ·exact h.nd.2.2.2.2
 ·exact h.ed.2.2.2.1
 ·exact h.ed.2.2.2.2
 ·exact (h.ws.lt k hk).2
theorem DjK.Con.kept {K:DjK} {W W':World} (h:K.Con W) (hz:W.heap.size<=W'.heap.size) (hk:∀k,K.C k->W'.heap[k]? =W.heap[k]?):K.Con W':=
 ⟨h.bx.eq (hk _ (.inl rfl)),h.adj.kept fun k h1 h2=>hk k (.inr (.inl ⟨h1,h2⟩)),h.nd.kept hz (hk _ (by unfold DjK.C;simp)) (hk _ (by unfold DjK.C;simp)),h.ed.kept hz (hk _ (by unfold DjK.C;simp)) (hk _ (by unfold DjK.C;simp)),Ak h.ws (fun k e=>hk k (.inr (.inr (.inr (.inr (.inr (.inr e))))))),by have:=h.hi;omega⟩
structure DS where
 far:List (Option Int)
 l:List IK
 p:List Int
def Cj (s:DS) (u:Nat) (d:Int):DS:=if (Au s.far u d).1 then ⟨(Au s.far u d).2,(Bl s.l s.p u d).2.1,(Bl s.l s.p u d).2.2⟩ else s
def DjK.M (K:DjK) (v:Value) (k:Nat):Prop:=SX K.sb K.rb k\/HX K.hp v K.va k
structure DjK.Mem (K:DjK) (W:World) (v:Value) (s:DS):Prop where
 con:K.Con W
 st:StW W K.sb K.rb s.far
 hw:HeapW W K.hp v K.va s.l s.p
 ok:HeapOK s.l s.p
 lens:s.far.length=K.n/\s.p.length=K.n
 sep:∀k,K.C k->¬K.M v k
 sp2:∀k,SX K.sb K.rb k->¬HX K.hp v K.va k
 ge:∀k,K.C k\/K.M v k->K.B<=k
 bs:K.B<=W.heap.size
section
variable {K:DjK} {W W':World} {v:Value} {s:DS}
theorem DjK.Mem.llen (h:K.Mem W v s):s.l.length<=K.n:=by
 have:=Mw h.ok;have:=h.lens.2;omega
theorem DjK.Mem.mlt (h:K.Mem W v s):∀k,K.M v k->k<W.heap.size:=by
 have h1:=h.st.lt;rintro k ((rfl|rfl)|hk|hk|hk)
 ·exact h1.1
 ·exact h1.2
 ·exact hk▸h.hw.pb.lt
 ·exact (h.hw.ol.lt k hk).2
 ·exact (h.hw.oa.lt k hk).2
theorem DjK.Mem.off {X:Nat->Prop} (h:K.Mem W v s) (ho:OffX X W W') (hX:∀k,K.C k\/K.M v k->¬X k):K.Mem W' v s:=
 ⟨h.con.kept ho.size (fun k hk=>ho.block k (h.con.lt k hk) (hX k (.inl hk))),h.st.off ho (hX _ (.inr (.inl (.inl rfl)))) (hX _ (.inr (.inl (.inr rfl)))),h.hw.off ho (fun k hk=>hX k (.inr (.inr hk))),h.ok,h.lens,h.sep,h.sp2,h.ge,by have:=ho.size;have:=h.bs;omega⟩
theorem DjK.Mem.go (h:K.Mem W v s) (hb:Below W.heap.size W W'):K.Mem W' v s:=h.off (X:=fun _=>False) (.of_below hb) (fun _ _ h=>h)
end
def Dm (K:DjK) (W:World) (v:Value) (s':DS) (e:Ending) (w':World):Prop:=
 e=.returned (.tuple #[])/\∃v',K.Mem w' v' s'/\OffX (K.M v) W w'/\(v'.ownBlock=v.ownBlock\/∃g,v'.ownBlock=some g/\W.heap.size<=g)
theorem Ae7 (K:DjK) (W:World) (v:Value) (s:DS) (i u:Nat) (h:K.Mem W v s) (hi:i<K.es.length) (hu:u<K.n) (hn:K.n<=60000) (he:K.es.length<=60000):
  Calls Tryz.prog 248 #[.pointer (some ⟨K.xb,0,none⟩),.int .i64 (i:Int),.int .i64 (u:Int)] W fun e w'=>e=.returned (.bool true)/\W=w':=by
 have H1:=Bj3 (Ou K.eb K.ea K.es.length (i:Int) W h.con.ed (by omega) (by omega) (by omega));have H2:=Bj3 (Ou K.nb K.na K.n (u:Int) W h.con.nd (by omega) (by omega) (by omega));have x7:=(h.con.bx 7 _ rfl).1;have x8:=(h.con.bx 8 _ rfl).1;clear h
 go_enter Tryz.func248,Tryz.ntmps248
 go_wp2_with (first
  |(go_at_call_of 193 (Value.pointer (some ⟨K.eb,0,none⟩));refine H1.out.mono ?_;rintro e w1 ⟨rfl,hw1⟩;obtain rfl:=hw1.symm)
  |(go_at_call 193;refine H2.out.mono ?_;rintro e w1 ⟨rfl,hw1⟩;obtain rfl:=hw1.symm))
 go_ret
 exact ⟨rfl,rfl⟩
theorem Hd (K:DjK) (W:World) (v:Value) (s:DS) (u:Nat) (d:Int) (h:K.Mem W v s) (hu:u<K.n) (hn:K.n<=60000):
  Calls Tryz.prog 194 #[.pointer (some ⟨K.xb,0,none⟩),.int .i64 (u:Int),.int .u64 d] W (Dm K W v (Cj s u d)):=by
 have HLS:=Bj3 (Lm K.sb K.rb u d s.far W h.st (by rw [h.lens.1];exact hu));have HH:=Bj3 h;have HU:=Bj3 (show Cj s u d=if (Au s.far u d).1 then ⟨(Au s.far u d).2,(Bl s.l s.p u d).2.1,(Bl s.l s.p u d).2.2⟩ else s from rfl);have x5:=(h.con.bx 5 _ rfl).1;have x9:=(h.con.bx 9 _ rfl).1;have x10:=(h.con.bx 10 _ rfl).1;unfold Dm
 cases hle:(Au s.far u d).1 with
 |false=>
  have HF:=Bj3 (Fp hle);rw [hle] at HLS HU;clear hle h
  go_enter Tryz.func194,Tryz.ntmps194
  go_wp2_with (go_at_call 247;refine HLS.out.mono ?_;rintro e w1 ⟨rfl,hs1,ho1⟩;(have HS1:=Bj3 hs1);(have HO1:=Bj3 ho1);clear hs1 ho1)
  try simp only [Exit.noGoto]
  refine bodyPost_end (results_none rfl _ _ _) rfl ?_;refine ⟨rfl,v,?_,HO1.out.mono (fun k hk=>.inl hk),.inl rfl⟩;rw [HU.out,if_neg (by simp)];have h1:=HH.out;have h2:=HS1.out;rw [HF.out.1] at h2;have ho:=HO1.out;exact ⟨h1.con.kept ho.size (fun k hk=>ho.block k (h1.con.lt k hk) (fun e=>h1.sep k hk (.inl e))),h2,h1.hw.off ho (fun k hk e=>h1.sp2 k e hk),h1.ok,h1.lens,h1.sep,h1.sp2,h1.ge,by have:=ho.size;have:=h1.bs;omega⟩
 |true=>
  have HF:=Bj3 (Gr hle);rw [hle] at HLS HU;have HPT:=Bj3 (fun WX (hx:HeapW WX K.hp v K.va s.l s.p)=>Hk K.hp u d v K.va s.l s.p WX hx h.ok (by rw [h.lens.2];exact hu) (by have:=h.llen;omega));unfold Ft at HPT;have HKX:=Bj3 (fun (w1:World) (ho1:OffX (SX K.sb K.rb) W w1)=>(show w1.cell? ⟨K.xb,10,none⟩=some (.pointer (some ⟨K.hp,0,none⟩)) from ho1.cell x10 (fun e=>h.sep _ (.inl rfl) (.inl e))));clear hle h
  go_enter Tryz.func194,Tryz.ntmps194
  go_wp2_with (first
   |(go_at_call 247;refine HLS.out.mono ?_;rintro e w1 ⟨rfl,hs1,ho1⟩;(have HS1:=Bj3 hs1);(have HO1:=Bj3 ho1);(have y10:=HKX.out w1 ho1);clear hs1 ho1)
   |(go_at_call 163;refine (HPT.out _ (HH.out.hw.off HO1.out (fun k hk e=>HH.out.sp2 k e hk))).mono ?_;rintro e w3 ⟨rfl,v3,hh3,ho3,hv3⟩;(have HH3:=Bj3 hh3);(have HO3:=Bj3 ho3);(have HV3:=Bj3 hv3);clear hh3 ho3 hv3))
  try simp only [Exit.noGoto]
  refine bodyPost_end (results_none rfl _ _ _) rfl ?_;have h0:=HH.out;have ho1:=HO1.out;have ho3:=HO3.out;have hs1:=ho1.size;obtain ⟨l1,l2,-⟩:=Eb h0.ok (v:=u) (by rw [h0.lens.2];exact hu) d;have hoff:OffX (K.M v) W w3:=(ho1.mono (fun k hk=>.inl hk)).trans (ho3.mono (fun k hk=>.inr hk));have hnew:∀k,K.M v3 k->K.M v k\/W.heap.size<=k:=by
   rintro k (hk|hk|hk|hk)
   ·exact .inl (.inl hk)
   ·exact .inl (.inr (.inl hk))
   ·rcases HV3.out with e|⟨g,e,hg⟩
    ·exact .inl (.inr (.inr (.inl (e▸hk))))
    ·rw [e] at hk
     cases hk
     exact .inr (by omega)
   ·exact .inl (.inr (.inr (.inr hk)))
  refine ⟨rfl,v3,⟨?_,?_,?_,?_,?_,?_,?_,?_,?_⟩,hoff,?_⟩
  ·exact h0.con.kept hoff.size (fun k hk=>hoff.block k (h0.con.lt k hk) (h0.sep k hk))
  ·first|rw [HU.out,if_pos rfl]|rw [HU.out]
   exact HS1.out.off ho3 (fun e=>h0.sp2 _ (.inl rfl) e) (fun e=>h0.sp2 _ (.inr rfl) e)
  ·first|rw [HU.out,if_pos rfl]|rw [HU.out]
   exact HH3.out
  ·first|rw [HU.out,if_pos rfl]|rw [HU.out]
   exact l1
  ·first|rw [HU.out,if_pos rfl]|rw [HU.out]
   exact ⟨(Rr _ _ _).trans h0.lens.1,l2.trans h0.lens.2⟩
  ·intro k hk hm
   rcases hnew k hm with h1|h1
   ·exact h0.sep k hk h1
   ·have:=h0.con.lt k hk
    omega
  ·intro k hk hm
   have hlt:k<W.heap.size:=by rcases hk with rfl|rfl;exact h0.st.lt.1;exact h0.st.lt.2
   rcases hm with hm|hm|hm
   ·exact h0.sp2 k hk (.inl hm)
   ·rcases HV3.out with e|⟨g,e,hg⟩
    ·exact h0.sp2 k hk (.inr (.inl (e▸hm)))
    ·rw [e] at hm
     cases hm
     omega
   ·exact h0.sp2 k hk (.inr (.inr hm))
  ·rintro k (hk|hk)
   ·exact h0.ge k (.inl hk)
   ·rcases hnew k hk with h1|h1
    ·exact h0.ge k (.inr h1)
    ·have:=h0.bs
     omega
  ·have:=h0.bs
   have:=hoff.size;omega
  ·rcases HV3.out with e|⟨g,e,hg⟩
   ·exact .inl e
   ·exact .inr ⟨g,e,by omega⟩
end Dj
end
section
namespace Dj
open Go Go.Proofs Go.RowKit Ch Hp Ad
theorem Dj.full {X:Nums} {s:Int} {far:Int->Option Int} {l:List (Int×Int)} {cur:Int} {out:List (Int×Int)} {done done':Int->Int->Prop} (h:Dj X s far l cur out done)
  (hc:∀a∈out,∀i v w,done' a.1 i->X i a.1 v w->done a.1 i):Dj X s far l cur out done':=
 ⟨h.sound,h.start,h.heap,h.lab,h.rest,fun a ha i v w hd hx=>h.gone a ha i v w (hc a ha i v w hd hx) hx,h.once,h.low⟩
theorem Bh0 {n:Nat} {es:List EdgeD} {bk:Bool} (hE:EOK n es) {v:Nat} {x:Pp} (hx:x∈Jg es bk v) {st:DS} (hho:HeapOK st.l st.p) (h1:st.far.length=n) (h3:st.p.length=n)
  {s d:Int} {out:List (Int×Int)} {done:Int->Int->Prop} (ha:((v:Int),d)∈out) (h:Dj (XD es bk) s (Ev st.far) st.l d out done) {t:Nat} (htt:Wf bk x.2=(t:Int)):
  Dj (XD es bk) s (Ev (Cj st t (d+x.2.w)).far) (Cj st t (d+x.2.w)).l d out (fun u j=>done u j\/(u=(v:Int)/\j=x.1))/\
   Dd n (Cj st t (d+x.2.w)).far (Cj st t (d+x.2.w)).l<=Dd n st.far st.l:=by
 obtain ⟨j,-,-,hxe,-,hX⟩:=Xo hE hx;have ht:t<n:=by have:=(hE.oth bk _ hxe).2;omega
 have hw1:=(hE _ hxe).2.2.1;rw [htt] at hX;have hpos:∀u v w,(XD es bk).rel u v w->1<=w:=fun u v w k=>(XD.ok hE u v w k).2.2.1
 cases hl:(Au st.far t (d+x.2.w)).1 with
 |false=>
  obtain ⟨_,e,he,hle⟩:=Fp hl;have hr:Cj st t (d+x.2.w)=st:=by unfold Cj;rw [hl];rfl
  rw [hr];exact ⟨Dj.skip h ha (fun v' w' k=>XD.uniq hX k) (by rw [Cs];exact he) hle,Bj5 _⟩
 |true=>
  obtain ⟨hf,hlt⟩:=Gr hl;have hr:Cj st t (d+x.2.w)=⟨st.far.set t (some (d+x.2.w)),(Bl st.l st.p t (d+x.2.w)).2.1,(Bl st.l st.p t (d+x.2.w)).2.2⟩:=by unfold Cj;rw [hl,hf];rfl
  rw [hr];simp only;have hfar:∀e,Ev st.far (t:Int)=some e->d+x.2.w<e:=fun e he=>hlt e (by rw [<-Cs];exact he);obtain ⟨l1,l2,l3,l4,l5⟩:=Eb hho (v:=t) (by rw [h3];exact ht) (d+x.2.w);have hput:∀y,y∈(Bl st.l st.p t (d+x.2.w)).2.1↔(y=((t:Int),d+x.2.w)\/(y∈st.l/\y.1≠(t:Int))):=by
   cases hb:(Bl st.l st.p t (d+x.2.w)).1 with
   |true=>exact l3 hb
   |false=>
    obtain ⟨_,k,hk,hle⟩:=l4 hb;have:=hfar k (h.heap _ _ hk).1;omega
  refine ⟨?_,Pd (by rw [h1];exact ht) ?_ hput⟩
  ·rw [Nc (by rw [h1];exact ht)]
   exact Dj.reach hpos h ha rfl hX (fun v' w' k=>XD.uniq hX k) hfar hput
  ·refine Cu.2 ?_
   cases hfx:st.far.getD t none with
   |none=>exact .inl rfl
   |some e=>
    rcases h.rest (t:Int) e (by rw [Cs];exact hfx) with h9|⟨a,ha2,h9⟩
    ·exact .inr ⟨e,h9⟩
    ·have h5:=h.lab a ha2
     have h6:=h5.1;rw [h9,Cs,hfx] at h6;have:=Bm2 h6;have:=hlt e hfx;omega
def DS.zero (n:Nat):DS:=⟨List.replicate n none,[],List.replicate n (-1)⟩
theorem Bd0 {n s:Nat} (hs:s<n) (X:Nums) (done:Int->Int->Prop):Dj X (s:Int) (Ev (Cj (DS.zero n) s 0).far) (Cj (DS.zero n) s 0).l 0 [] done:=by
 obtain ⟨l1,l2,l3,l4,l5⟩:=Eb (Gh n) (v:=s) (by rw [Bm4];exact hs) 0;have hg:(List.replicate n (none:Option Int)).getD s none=none:=by rw [Bj9,Bn3];split<;>rfl
 have hle:Au (List.replicate n none) s 0=(true,(List.replicate n none).set s (some 0)):=by unfold Au;rw [hg]
 have hr:Cj (DS.zero n) s 0=⟨(List.replicate n none).set s (some 0),(Bl [] (List.replicate n (-1)) s 0).2.1,(Bl [] (List.replicate n (-1)) s 0).2.2⟩:=by unfold Cj DS.zero;simp only;rw [hle];rfl
 rw [hr];simp only;have hf:Ev ((List.replicate n (none:Option Int)).set s (some 0))=upd (fun _=>none) (s:Int) (some 0):=by
  rw [Nc (by rw [Bm4];exact hs)]
  congr 1
  funext u
  unfold Ev
  split
  ·rw [Bj9,Bn3]
   split<;>rfl
  ·rfl
 rw [hf];have hm:∀y,y∈(Bl [] (List.replicate n (-1)) s 0).2.1↔y∈[((s:Int),(0:Int))]:=by
  intro y
  cases hb:(Bl [] (List.replicate n (-1)) s 0).1 with
  |true=>rw [l3 hb];simp
  |false=>
   obtain ⟨_,k,hk,_⟩:=l4 hb
   cases hk
 have h0:=Dj.begin X (s:Int) done;exact ⟨h0.sound,h0.start,fun v k hk=>h0.heap v k ((hm _).1 hk),(fun a ha=>nomatch ha),fun v d hd=>(h0.rest v d hd).imp (fun k=>(hm _).2 k) id,h0.gone,h0.once,h0.low⟩
def OkD (es:List EdgeD) (bk:Bool) (n:Nat) (s:Int) (pre:List (Int×Int)):Prop:=pre.Pairwise (fun a b=>a.1≠b.1)/\∀a∈pre,Dist (XD es bk).rel s a.1 a.2/\Ac n a.1
def Ak8 (es:List EdgeD) (bk:Bool) (n:Nat) (s:Int) (pre:List (Int×Int)):Prop:=OkD es bk n s pre/\∀v e,Way0 (XD es bk).rel Any s v e->∃a∈pre,a.1=v
def Zk (x:Int×Int):Array Value:=#[.int .i64 x.1,.int .u64 x.2]
end Dj
end
end Go.Proofs.YteaaapdjplbljaaGreat
