/- Parts; no condition. -/
import Derived.RangeFuncIn
import Derived.RangeFuncBox
import Derived.RangeFuncRecord
import Derived.RangeFuncLeaves
import Derived.RangeFuncCalls
import Derived.Test.YteaaapdjplbljaaGreatProg
import Derived.Test.YteaaapdjplbljaaGreatVc02
import Derived.Laws.OwnMore
import Derived.WalkSmall
import Derived.OneCell
import Derived.Deep.Cut
import Derived.Deep.RegionLaw
set_option linter.unusedVariables false
set_option linter.unusedSimpArgs false
set_option linter.unnecessarySimpa false
set_option maxRecDepth 100000
set_option maxHeartbeats 8000000
namespace Go.Proofs.YteaaapdjplbljaaGreat
section
open Go Go.Proofs Go.RowKit
structure OffX (X:Nat->Prop) (w w':World):Prop where
 os:w'.os=w.os
 tape:w'.tape=w.tape
 output:w'.output=w.output
 size:w.heap.size<=w'.heap.size
 block:∀k,k<w.heap.size->¬X k->w'.heap[k]? =w.heap[k]?
theorem OffX.refl (X:Nat->Prop) (w:World):OffX X w w:=⟨rfl,rfl,rfl,Bi7 _,fun _ _ _=>rfl⟩
theorem OffX.trans {X:Nat->Prop} {a b c:World} (h:OffX X a b) (k:OffX X b c):OffX X a c:=
 ⟨k.os.trans h.os,k.tape.trans h.tape,k.output.trans h.output,Bi9 h.size k.size,fun i hi hn=>(k.block i (by have:=h.size;omega) hn).trans (h.block i hi hn)⟩
theorem OffX.mono {X Y:Nat->Prop} {a b:World} (h:OffX X a b) (hs:∀k,X k->Y k):OffX Y a b:=⟨h.os,h.tape,h.output,h.size,fun k hk hn=>h.block k hk (fun e=>hn (hs k e))⟩
theorem OffX.of_below {X:Nat->Prop} {a b:World} (h:Below a.heap.size a b):OffX X a b:=⟨h.os,h.tape,h.output,h.size,fun k hk _=>h.block k hk⟩
theorem OffX.put {X:Nat->Prop} {a:World} {l:Nat} (o:Obj) (hX:X l):OffX X a (a.putObj l o):=
 have h:=grownBy_putObj' a l o
 ⟨h.os,h.tape,h.output,h.size,fun k hk hn=>h.block k hk (fun e=>hn (by cases e;exact hX))⟩
theorem OffX.set {X:Nat->Prop} {a:World} {b j:Nat} (v:Value) (hX:X b):OffX X a (a.setCell ⟨b,j,none⟩ v):=
 ⟨rfl,rfl,rfl,by simp [World.setCell],fun k _ hn=>Below.heap_setCell _ _ _ _ (fun e=>hn (by cases e;exact hX))⟩
theorem OffX.below {X:Nat->Prop} {a b:World} {B:Nat} (h:OffX X a b) (hB:B<=a.heap.size) (hX:∀k,X k->B<=k):Below B a b:=
 ⟨h.os,h.tape,h.output,h.size,fun k hk=>h.block k (by omega) (fun e=>by have:=hX k e;omega)⟩
theorem OffX.cell {X:Nat->Prop} {a b:World} {p:Addr} {v:Value} (h:OffX X a b) (hc:a.cell? p=some v) (hn:¬X p.block):b.cell? p=some v:=
 (Bl2 (w:=a) (h.block p.block (Bj5 _ _ hc) hn)).trans hc
theorem OffX.frozen {X:Nat->Prop} {a b:World} {p:Addr} (h:OffX X a b) (hl:p.block<a.heap.size) (hn:¬X p.block):b.frozen? p=a.frozen? p:=
 World.frozen?_of_block (w:=a) (h.block p.block hl hn)
def KeepX (X:Nat->Prop) (w w':World):Prop:=w.heap.size<=w'.heap.size/\∀k,X k->w'.heap[k]? =w.heap[k]?
theorem KeepX.trans {X:Nat->Prop} {a b c:World} (h:KeepX X a b) (k:KeepX X b c):KeepX X a c:=⟨Bi9 h.1 k.1,fun i hi=>(k.2 i hi).trans (h.2 i hi)⟩
theorem KeepX.mono {X Y:Nat->Prop} {a b:World} (h:KeepX Y a b) (hs:∀k,X k->Y k):KeepX X a b:=⟨h.1,fun k hk=>h.2 k (hs k hk)⟩
variable {F:Fence} {n:Nat} {P:Program}
end
section
open Go Go.Proofs Go.RowKit Go.Shelf Hp
def PB (W:World) (b:Nat) (xs:List Value):Prop:=∀(i:Nat) (x:Value),xs[i]? =some x->W.cell? ⟨b,i,none⟩=some x/\W.frozen? ⟨b,i,none⟩=false
theorem PB.eq {W W':World} {b:Nat} {xs:List Value} (h:PB W b xs) (he:W'.heap[b]? =W.heap[b]?):PB W' b xs:=fun i x hx=>
 ⟨(Bl2 (a:=⟨b,i,none⟩) he).trans (h i x hx).1,(World.frozen?_of_block (a:=⟨b,i,none⟩) he).trans (h i x hx).2⟩
theorem PB.lt {W:World} {b:Nat} {x:Value} {xs:List Value} (h:PB W b (x::xs)):b<W.heap.size:=Bj5 _ _ (h 0 x rfl).1
theorem PB.go {W W':World} {b:Nat} {x:Value} {xs:List Value} (h:PB W b (x::xs)) (hb:Below W.heap.size W W'):PB W' b (x::xs):=h.eq (hb.block b h.lt)
theorem PB.setAt {W:World} {b c j:Nat} {xs:List Value} (h:PB W b xs) (hn:c≠b) (u:Value):PB (W.setCell ⟨c,j,none⟩ u) b xs:=h.eq (Below.heap_setCell _ _ _ _ (Ne.symm hn))
theorem PB.set {W:World} {b:Nat} {xs:List Value} (h:PB W b xs) (j:Nat) (u:Value):PB (W.setCell ⟨b,j,none⟩ u) b (xs.set j u):=by
 intro i x hx;rw [Bm1]
 by_cases e:i=j
 ·subst e
  have hlt:i<xs.length:=by
   have:=(Bj8.1 hx).1
   simpa using this
  rw [Bn4 hlt] at hx
  cases hx
  obtain ⟨h1,h2⟩:=h i xs[i] (Bj0 hlt);exact ⟨Bj4 _ _ _ h1,h2⟩
 ·rw [Bn3 (Ne.symm e)] at hx
  obtain ⟨h1,h2⟩:=h i x hx;exact ⟨by rw [Bj3 _ _ _ _ (by simp;try omega)];exact h1,h2⟩
def Aq:List IK->List Value
 |[]=>[]
 |x::l=>.int .i64 x.1::.int .u64 x.2::Aq l
theorem Kb:∀l,(Aq l).length=l.length*2
 |[]=>rfl
 |x::l=>by rw [Aq];simp [Kb l];omega
theorem Ay:∀(l:List IK) (k:Nat),k<l.length->(Aq l)[k*2]? =some (.int .i64 (gI l k).1)/\(Aq l)[k*2+1]? =some (.int .u64 (gI l k).2)
 |x::l,0,_=>⟨rfl,rfl⟩
 |x::l,k+1,h=>by
  have:=Ay l k (by simpa using h);rw [show (k+1)*2=k*2+2 by omega];exact this
theorem Dy:∀(l m:List IK),Aq (l++m)=Aq l++Aq m
 |[],m=>rfl
 |x::l,m=>by rw [List.cons_append,Aq,Aq,Dy l m];rfl
theorem Nw:∀(l:List IK) (k:Nat) (y:IK),((Aq l).set (k*2) (.int .i64 y.1)).set (k*2+1) (.int .u64 y.2)=Aq (l.set k y)
 |[],k,y=>by simp [Aq]
 |x::l,0,y=>rfl
 |x::l,k+1,y=>by
  have:=Nw l k y;rw [show (k+1)*2=k*2+2 by omega]
  show Value.int .i64 x.1::Value.int .u64 x.2::(((Aq l).set (k*2) _).set (k*2+1) _)=_
  rw [this];rfl
theorem Af {w w':World} {base:Nat} {e:TypeId} {size n:Nat} {v:Value} {xs:List Value} (h:w.ownsRow base e size v n xs) (hb:Below w.heap.size w w'):w'.ownsRow base e size v n xs:=by
 refine ⟨h.1,?_⟩
 rcases h.2 with h2|⟨g,cap,cur,hv,hbg,hg,r⟩
 ·exact .inl h2
 ·exact .inr ⟨g,cap,cur,hv,hbg,by rw [hb.block g (Bj2.1 hg).1];exact hg,r⟩
structure HeapW (w:World) (b:Nat) (v va:Value) (l:List IK) (p:List Int):Prop where
 pb:PB w b [v,va]
 ol:w.ownsRow 0 315 2 v l.length (Aq l)
 oa:w.ownsRow 0 3 1 va p.length (p.map Aj)
 d1:v.ownBlock≠some b
 d2:va.ownBlock≠some b
 d3:∀k,v.ownBlock=some k->va.ownBlock≠some k
def HX (b:Nat) (v va:Value) (k:Nat):Prop:=k=b\/v.ownBlock=some k\/va.ownBlock=some k
theorem HeapW.go {w w':World} {b:Nat} {v va:Value} {l:List IK} {p:List Int} (h:HeapW w b v va l p) (hb:Below w.heap.size w w'):HeapW w' b v va l p:=
 ⟨h.pb.go hb,Af h.ol hb,Af h.oa hb,h.d1,h.d2,h.d3⟩
theorem HeapW.dr {w:World} {b:Nat} {v va:Value} {l:List IK} {p:List Int} (h:HeapW w b v va l p):HeapW w.drew b v va l p:=h.go ((Below.refl _ _).drew)
theorem HeapW.item {w:World} {b g cg:Nat} {va:Value} {l:List IK} {p:List Int} (h:HeapW w b (.slice (some ⟨g,0,none⟩) l.length cg) va l p) (i:Nat) (x:IK):
  HeapW ((w.setCell ⟨g,i*2,none⟩ (.int .i64 x.1)).setCell ⟨g,i*2+1,none⟩ (.int .u64 x.2)) b (.slice (some ⟨g,0,none⟩) (l.set i x).length cg) va (l.set i x) p:=by
 have d1:g≠b:=by have:=h.d1;simpa [Value.ownBlock] using this
 have d3:=h.d3 g rfl;refine ⟨?_,?_,?_,h.d1,h.d2,?_⟩
 ·rw [Bj6]
  exact (h.pb.setAt d1 _).setAt d1 _
 ·have h1:=(h.ol.stored (i*2) (.int .i64 x.1)).1
  have h2:=(h1.stored (i*2+1) (.int .u64 x.2)).1;rw [Nw] at h2;rw [Bj6];exact h2
 ·exact ownsRow_setCell_other (a:=⟨g,i*2+1,none⟩) (ownsRow_setCell_other (a:=⟨g,i*2,none⟩) h.oa d3 _) d3 _
 ·intro k hk
  exact h.d3 k hk
theorem HeapW.place {w:World} {b a ca:Nat} {v:Value} {l:List IK} {p:List Int} (h:HeapW w b v (.slice (some ⟨a,0,none⟩) p.length ca) l p) (u:Nat) (x:Int):
  HeapW (w.setCell ⟨a,u,none⟩ (.int .i64 x)) b v (.slice (some ⟨a,0,none⟩) (p.set u x).length ca) l (p.set u x):=by
 have d2:a≠b:=by have:=h.d2;simpa [Value.ownBlock] using this
 refine ⟨?_,?_,?_,h.d1,h.d2,?_⟩
 ·rw [Bj6]
  exact h.pb.setAt d2 _
 ·exact ownsRow_setCell_other (a:=⟨a,u,none⟩) h.ol (fun e=>h.d3 a e rfl) _
 ·have h1:=(h.oa.stored u (.int .i64 x)).1
  rw [<-List.map_set (f:=Aj)] at h1;rw [Bj6];exact h1
 ·intro k hk
  exact h.d3 k hk
end
section
open Go Go.Proofs Go.RowKit Go.Shelf Hp
abbrev Tz (x:IK):Value:=.agg #[.int .i64 x.1,.int .u64 x.2]
theorem Bq (a b:IK) (w:World):Calls Tryz.prog 262 #[Tz a,Tz b] w fun e w'=>e=.returned (.bool (Bc a b))/\Below w.heap.size w w':=by
 obtain ⟨a1,a2⟩:=a;obtain ⟨b1,b2⟩:=b;unfold Bc;simp only
 cases h1:decide (a2<b2) with
 |true=>
  go_enter Tryz.func262,Tryz.ntmps262
  go_wp2
  go_ret
  exact ⟨rfl,(Below.of_al _ _).al _⟩
 |false=>
  rw [Bool.false_or]
  by_cases h2:a2=b2
  ·subst h2
   rw [decide_eq_true rfl,Bool.true_and];have g2:(a2==a2)=true:=by simp
   go_enter Tryz.func262,Tryz.ntmps262
   go_wp2
   go_ret
   exact ⟨rfl,(Below.of_al _ _).al _⟩
  ·rw [decide_eq_false h2,Bool.false_and]
   have g2:(a2==b2)=false:=by simpa using h2
   clear h2
   go_enter Tryz.func262,Tryz.ntmps262
   go_wp2
   go_ret
   exact ⟨rfl,(Below.of_al _ _).al _⟩
def RX (v va:Value) (k:Nat):Prop:=v.ownBlock=some k\/va.ownBlock=some k
theorem Ap {w:World} {base size n:Nat} {e:TypeId} {v:Value} {xs:List Value} (h:w.ownsRow base e size v n xs) (hn:0<n):∃g cap,v=.slice (some ⟨g,0,none⟩) n cap:=by
 rcases h.2 with ⟨_,e⟩|⟨g,cap,cur,e,_⟩
 ·omega
 ·exact ⟨g,cap,e⟩
theorem Av5 (b:Nat) (v va:Value) (l:List IK) (p:List Int) (i u:Nat) (k:Int) (w:World) (h:HeapW w b v va l p) (hi:i<l.length) (hu:u<p.length):
  Calls Tryz.prog 263 #[.pointer (some ⟨b,0,none⟩),.int .i64 i,Tz ((u:Int),k)] w fun e w'=>e=.returned (.tuple #[])/\HeapW w' b v va (l.set i ((u:Int),k)) (p.set u (i:Int))/\OffX (RX v va) w w':=by
 obtain ⟨g,cg,rfl⟩:=Ap h.ol (by omega);obtain ⟨a,ca,rfl⟩:=Ap h.oa (by omega);have hb:b<w.heap.size:=h.pb.lt;obtain ⟨W,hW⟩:∃W,W=w.alloc (Obj.cells #[.int .i64 (u:Int),.int .u64 k] 315):=⟨_,rfl⟩;have H:=Bi5 (show HeapW W b _ _ l p by rw [hW];exact h.go (Below.of_al _ _));have HB:=Bi5 (show Below w.heap.size w W by rw [hW];exact Below.of_al _ _);have c0:W.cell? ⟨w.heap.size,0,none⟩=some (.int .i64 (u:Int)):=by rw [hW];go_simp
 have c1:W.cell? ⟨w.heap.size,1,none⟩=some (.int .u64 k):=by rw [hW];go_simp
 obtain ⟨p0,-⟩:=H.out.pb 0 _ rfl;obtain ⟨p1,-⟩:=H.out.pb 1 _ rfl;obtain ⟨r0,r1⟩:=Ay l i hi;have q0:=(H.out.ol.cellAt (i*2) (by omega)).trans r0;have q1:=(H.out.ol.cellAt (i*2+1) (by omega)).trans r1;have z0:=H.out.ol.frozenAt (i*2);have z1:=H.out.ol.frozenAt (i*2+1);have s0:=(H.out.oa.cellAt u (by omega)).trans (show (p.map Aj)[u]? =some (Aj (p[u]'hu)) by simp [hu]);have z2:=H.out.oa.frozenAt u;have hi1:(i:Int)<(l.length:Int):=by omega
 have hi0:(0:Int)<=(i:Int):=by omega
 have hu1:(u:Int)<(p.length:Int):=by omega
 have hu0:(0:Int)<=(u:Int):=by omega
 have hga:(g=a)=False:=by
  have:=H.out.d3 g rfl;simp [Value.ownBlock] at this;simp [Ne.symm this]
 have hag:(a=g)=False:=by simpa [eq_comm] using hga
 have hgw:g<w.heap.size:=(h.ol.lt g rfl).2;have haw:a<w.heap.size:=(h.oa.lt a rfl).2;have n1:(g=w.heap.size)=False:=by simp;omega
 have n2:(w.heap.size=g)=False:=by simp;omega
 have n3:(a=w.heap.size)=False:=by simp;omega
 have n4:(w.heap.size=a)=False:=by simp;omega
 have m1:(g=b)=False:=by have:=h.d1;simpa [Value.ownBlock] using this
 have m2:(b=g)=False:=by simpa [eq_comm] using m1
 have m3:(a=b)=False:=by have:=h.d2;simpa [Value.ownBlock] using this
 have m4:(b=a)=False:=by simpa [eq_comm] using m3
 clear h r0 r1 hgw haw
 go_enter Tryz.func263,Tryz.ntmps263
 go_upto_region 1 with (fail)
 rw [<-hW];clear hW
 go_region
 refine bodyPost_end (results_none rfl _ _ _) rfl ?_;refine ⟨rfl,?_,?_⟩
 ·have:=((H.out.item i ((u:Int),k)).place u (i:Int)).dr
  rw [Bj6,Bj6] at this;exact this
 ·have hX:RX (Value.slice (some ⟨g,0,none⟩) l.length cg) (Value.slice (some ⟨a,0,none⟩) p.length ca) g:=.inl rfl
  have hY:RX (Value.slice (some ⟨g,0,none⟩) l.length cg) (Value.slice (some ⟨a,0,none⟩) p.length ca) a:=.inr rfl;exact ((((OffX.of_below HB.out).trans (.set _ hX)).trans (.set _ hX)).trans (.set _ hY)).trans (.of_below ((Below.refl _ _).drew))
end
section
open Go Go.Proofs Go.RowKit Go.Shelf Hp
def InR (l:List IK) (n:Nat):Prop:=∀j,j<l.length->0<=(gI l j).1/\(gI l j).1.toNat<n
theorem InR.set {l:List IK} {n:Nat} (h:InR l n) {i:Nat} (hi:i<l.length) {x:IK} (hx:0<=x.1/\x.1.toNat<n):InR (l.set i x) n:=by
 intro j hj;rw [Bj6] at hj;rw [Av hi]
 split
 ·exact hx
 ·exact h j hj
theorem Ag8 (b:Nat) (v va:Value) (l:List IK) (p:List Int) (i:Nat) (x:IK) (w:World) (h:HeapW w b v va l p) (hi:i<l.length) (hx:0<=x.1/\x.1.toNat<p.length):
  Calls Tryz.prog 263 #[.pointer (some ⟨b,0,none⟩),.int .i64 i,Tz x] w fun e w'=>e=.returned (.tuple #[])/\HeapW w' b v va (l.set i x) (p.set x.1.toNat (i:Int))/\OffX (RX v va) w w':=by
 have:=Av5 b v va l p i x.1.toNat x.2 w h hi hx.2;rw [Bn2 hx.1] at this;exact this
theorem Bc9 {w:World} {b:Nat} {v va:Value} {l:List IK} {p:List Int} (h:HeapW w b v va l p):∀k,RX v va k->k<w.heap.size:=by
 rintro k (hk|hk)
 ·exact (h.ol.lt k hk).2
 ·exact (h.oa.lt k hk).2
theorem Nq (b:Nat) (v va:Value) (l:List IK) (p:List Int) (i:Nat) (x:IK) (w:World) (h:HeapW w b v va l p) (hi:i<l.length) (hx:0<=x.1/\x.1.toNat<p.length) (hr:InR l p.length) (hl:l.length<=1000000):
  Calls Tryz.prog 226 #[.pointer (some ⟨b,0,none⟩),.int .i64 i,Tz x] w fun e w'=>e=.returned (.tuple #[])/\HeapW w' b v va (Cx l p i x).1 (Cx l p i x).2/\OffX (RX v va) w w':=by
 obtain ⟨W,hW⟩:∃W,W=w.alloc (Obj.cells #[.int .i64 x.1,.int .u64 x.2] 315):=⟨_,rfl⟩;have H:=Bi5 (show HeapW W b v va l p by rw [hW];exact h.go (Below.of_al _ _));have HB:=Bi5 (show OffX (RX v va) w W by rw [hW];exact .of_below (Below.of_al _ _));have c0:W.cell? ⟨w.heap.size,0,none⟩=some (.int .i64 x.1):=by rw [hW];go_simp
 have c1:W.cell? ⟨w.heap.size,1,none⟩=some (.int .u64 x.2):=by rw [hW];go_simp
 have HC:=Bi5 (⟨c0,c1⟩:_/\_);have HNX:=Bi5 (show ∀k,RX v va k->k≠w.heap.size from fun k hk=>by have:=Bc9 h k hk;omega);obtain ⟨r,hr0⟩:∃r,r=Cx l p i x:=⟨_,rfl⟩;rw [<-hr0];have HR0:=Bi5 hr0;have HR:=Bi5 hr;have HX:=Bi5 hx;have HL:=Bi5 hl;have HP:=Bi5 (fun (l':List IK) (p':List Int) (i':Nat) (x':IK) W' h hi hx=>Ag8 b v va l' p' i' x' W' h hi hx);have HLS:=Bi5 (fun a c W=>Bq a c W);clear h hr hx hr0 c0 c1 hl
 go_enter Tryz.func226,Tryz.ntmps226
 repeat go_step
 refine wp_scope_straight ?_
 go_wp2
 rw [<-hW];clear hW
 go_step3
 go_wp2
 go_loopg [1] i (fun gg v1 wr=>∃(j:Nat) (l':List IK) (p':List Int),j<=gg/\v1=.int .i64 j/\j<l'.length/\l'.length=l.length/\p'.length=p.length/\Aside (r=Cx l' p' j x)/\Aside (HeapW wr b v va l' p')/\Aside (InR l' p.length)/\Aside (OffX (RX v va) w wr)/\Aside (wr.cell? ⟨w.heap.size,0,none⟩=some (.int .i64 x.1)/\wr.cell? ⟨w.heap.size,1,none⟩=some (.int .u64 x.2)))
 case atStart=>exact ⟨i,l,p,Bi7 _,rfl,hi,rfl,rfl,HR0.out,H.out,HR.out,HB.out,HC.out⟩
 case round=>
  obtain ⟨j,l',p',hg,rfl,hj,hll,hpl,HRR,HH,HI,HO,HCC⟩:=hrel;clear H HR HB HC HR0;have HXX:=Bi5 (show 0<=x.1/\x.1.toNat<p'.length by rw [hpl];exact HX.out);obtain ⟨g,cg,rfl⟩:=Ap HH.out.ol (by omega);obtain ⟨p0,-⟩:=HH.out.pb 0 _ rfl;obtain ⟨c0,c1⟩:=HCC.out;have hjm:l'.length<=1000000:=by rw [hll];exact HL.out
  by_cases h0:0<j
  ·have h00:(0:Int)<(j:Int):=by omega
   obtain ⟨u,hu⟩:∃u,u=(j-1) / 2:=⟨_,rfl⟩;have hul:u<l'.length:=by omega
   have hul2:(u:Int)<(l'.length:Int):=by omega
   have hu0:(0:Int)<=(u:Int):=by omega
   have A1:IntKind.i64.wrap ((j:Int)-1)=(j:Int)-1:=IntWalk.i64_in _ (by omega);have A2:((j:Int)-1).tdiv 2=(u:Int):=by rw [Int.tdiv_eq_ediv_of_nonneg (by omega)];omega
   have A3:IntKind.i64.wrap (u:Int)=(u:Int):=IntWalk.i64_in _ (by omega);have HU:=Bi5 hu;obtain ⟨r0,r1⟩:=Ay l' u hul;have q0:=(HH.out.ol.cellAt (u*2) (by omega)).trans r0;have q1:=(HH.out.ol.cellAt (u*2+1) (by omega)).trans r1;clear r0 r1 hu;have e0:=fun p=>Ac p p0;have e1:=fun p=>Ac p c0;have e2:=fun p=>Ac p c1;have e3:=fun p=>Ac p q0;have e4:=fun p=>Ac p q1
   cases hls:Bc x (gI l' u) with
   |true=>
    have HLS2:=Bi5 (fun W=>hls▸Bq x (gI l' u) W);have HST:=Bi5 (HRR.out.trans (Ws h0 (by rw [<-HU.out];exact hls)));rw [<-HU.out] at HST;have HY:=Bi5 (show 0<=(gI l' u).1/\(gI l' u).1.toNat<p'.length by rw [hpl];exact HI.out u hul);have HI2:=Bi5 (HI.out.set (i:=j) hj (by have:=HY.out;rwa [hpl] at this));clear hls
    go_wp2
    refine Ag (by kernel_rfl) (by kernel_rfl) ?_
    repeat (go_big_quiet_step ((go_at_call 262;exact Calls.ext_of (HLS2.out _))))
    refine wpQuiet_nil ?_;rintro _ ⟨p4,rfl⟩;have HB4:=Bi5 (Ah wr p4);generalize ext wr p4=w4 at HB4 ⊢;have HH4:=Bi5 (HH.out.go HB4.out);have HO4:=Bi5 (HO.out.trans (.of_below HB4.out));have HC4:=Bi5 (⟨Bi6 HB4.out c0,Bi6 HB4.out c1⟩:_/\_);have p04:=Bi6 HB4.out p0;have q04:=Bi6 HB4.out q0;have q14:=Bi6 HB4.out q1;clear e0 e1 e2 e3 e4 q0 q1 c0 c1 p0
    go_wp2_with (go_at_call 263;refine (HP.out l' p' j (gI l' u) _ HH4.out hj HY.out).mono ?_;rintro e w9 ⟨rfl,hh9,ho9⟩)
    have HH9:=Bi5 hh9;have HO9:=Bi5 (HO4.out.trans ho9);have HC9:=Bi5 (⟨ho9.cell HC4.out.1 (fun e=>HNX.out _ e rfl),ho9.cell HC4.out.2 (fun e=>HNX.out _ e rfl)⟩:w9.cell? ⟨w.heap.size,0,none⟩=some (.int .i64 x.1)/\w9.cell? ⟨w.heap.size,1,none⟩=some (.int .u64 x.2));clear hh9 ho9 p04 q04 q14
    go_roundg u
    case measure=>have:=HU.out;omega
    case rel=>exact ⟨u,l'.set j (gI l' u),p'.set (gI l' u).1.toNat (j:Int),Bi7 _,rfl,by rw [Bj6];omega,by rw [Bj6];exact hll,by rw [Bj6];exact hpl,HST.out,HH9.out,HI2.out,HO9.out,HC9.out⟩
   |false=>
    have HLS2:=Bi5 (fun W=>hls▸Bq x (gI l' u) W);have HWY:=Bi5 (show j=0\/Bc x (gI l' ((j-1) / 2))=false from .inr (by rw [<-HU.out];exact hls));clear hls
    go_wp2
    refine Ag (by kernel_rfl) (by kernel_rfl) ?_
    repeat (go_big_quiet_step ((go_at_call 262;exact Calls.ext_of (HLS2.out _))))
    refine wpQuiet_nil ?_;rintro _ ⟨p4,rfl⟩;have HB4:=Bi5 (Ah wr p4);generalize ext wr p4=w4 at HB4 ⊢;have HH4:=Bi5 (HH.out.go HB4.out);have HO4:=Bi5 (HO.out.trans (.of_below HB4.out));have c04:=Bi6 HB4.out c0;have c14:=Bi6 HB4.out c1;clear e0 e1 e2 e3 e4 q0 q1 c0 c1 p0
    go_wp2_with (go_at_call 263;refine (HP.out l' p' j x _ (HH4).out hj HXX.out).mono ?_;rintro e w9 ⟨rfl,hh9,ho9⟩)
    try simp only [Exit.noGoto]
    refine bodyPost_end (results_none rfl _ _ _) rfl ?_;refine ⟨rfl,?_,(HO4).out.trans ho9⟩;rw [HRR.out,Nh (HWY.out)];exact hh9
  ·have h00:¬(0:Int)<(j:Int):=by omega
   have HWY:=Bi5 (show j=0\/Bc x (gI l' ((j-1) / 2))=false from .inl (by omega))
   go_wp2_with (go_at_call 263;refine (HP.out l' p' j x _ (HH).out hj HXX.out).mono ?_;rintro e w9 ⟨rfl,hh9,ho9⟩)
   try simp only [Exit.noGoto]
   refine bodyPost_end (results_none rfl _ _ _) rfl ?_;refine ⟨rfl,?_,(HO).out.trans ho9⟩;rw [HRR.out,Nh (HWY.out)];exact hh9
theorem Am4 (b:Nat) (v va:Value) (l:List IK) (p:List Int) (i:Nat) (x:IK) (w:World) (h:HeapW w b v va l p) (hi:i<l.length) (hx:0<=x.1/\x.1.toNat<p.length) (hr:InR l p.length) (hl:l.length<=1000000):
  Calls Tryz.prog 265 #[.pointer (some ⟨b,0,none⟩),.int .i64 i,Tz x] w fun e w'=>e=.returned (.tuple #[])/\HeapW w' b v va (Bj l p i x).1 (Bj l p i x).2/\OffX (RX v va) w w':=by
 obtain ⟨W,hW⟩:∃W,W=w.alloc (Obj.cells #[.int .i64 x.1,.int .u64 x.2] 315):=⟨_,rfl⟩;have H:=Bi5 (show HeapW W b v va l p by rw [hW];exact h.go (Below.of_al _ _));have HB:=Bi5 (show OffX (RX v va) w W by rw [hW];exact .of_below (Below.of_al _ _));have c0:W.cell? ⟨w.heap.size,0,none⟩=some (.int .i64 x.1):=by rw [hW];go_simp
 have c1:W.cell? ⟨w.heap.size,1,none⟩=some (.int .u64 x.2):=by rw [hW];go_simp
 have HC:=Bi5 (⟨c0,c1⟩:_/\_);have HNX:=Bi5 (show ∀k,RX v va k->k≠w.heap.size from fun k hk=>by have:=Bc9 h k hk;omega);obtain ⟨r,hr0⟩:∃r,r=Bj l p i x:=⟨_,rfl⟩;rw [<-hr0];have HR0:=Bi5 hr0;have HR:=Bi5 hr;have HX:=Bi5 hx;have HL:=Bi5 hl;have HP:=Bi5 (fun (l':List IK) (p':List Int) (i':Nat) (x':IK) W' h hi hx=>Ag8 b v va l' p' i' x' W' h hi hx);have HLS:=Bi5 (fun a c W=>Bq a c W);clear h hr hx hr0 c0 c1 hl
 go_enter Tryz.func265,Tryz.ntmps265
 repeat go_step
 refine wp_scope_straight ?_
 go_wp2
 rw [<-hW];clear hW
 go_step3
 go_wp2
 go_loopg [1] (l.length-i) (fun gg v1 wr=>∃(j:Nat) (l':List IK) (p':List Int),l.length-j<=gg/\v1=.int .i64 j/\j<l'.length/\l'.length=l.length/\p'.length=p.length/\Aside (r=Bj l' p' j x)/\Aside (HeapW wr b v va l' p')/\Aside (InR l' p.length)/\Aside (OffX (RX v va) w wr)/\Aside (wr.cell? ⟨w.heap.size,0,none⟩=some (.int .i64 x.1)/\wr.cell? ⟨w.heap.size,1,none⟩=some (.int .u64 x.2)))
 case atStart=>exact ⟨i,l,p,Bi7 _,rfl,hi,rfl,rfl,HR0.out,H.out,HR.out,HB.out,HC.out⟩
 case round=>
  obtain ⟨j,l',p',hg,rfl,hj,hll,hpl,HRR,HH,HI,HO,HCC⟩:=hrel;clear H HR HB HC HR0;have HXX:=Bi5 (show 0<=x.1/\x.1.toNat<p'.length by rw [hpl];exact HX.out);obtain ⟨g,cg,rfl⟩:=Ap HH.out.ol (by omega);obtain ⟨p0,-⟩:=HH.out.pb 0 _ rfl;obtain ⟨c0,c1⟩:=HCC.out;have hjm:l'.length<=1000000:=by rw [hll];exact HL.out
  have hlm:l.length<=1000000:=HL.out;obtain ⟨k,hk⟩:∃k,k=2*j+1:=⟨_,rfl⟩;obtain ⟨k',hk'⟩:∃k',k'=k+1:=⟨_,rfl⟩;have A1:(2*(j:Int)+1).toNat=k:=by omega
  have A2:(2*(j:Int)+1+1).toNat=k':=by omega
  have A4:(0:Int)<=2*(j:Int)+1:=by omega
  have A5:(0:Int)<=2*(j:Int)+1+1:=by omega
  subst hk';subst hk;clear A1 A2
  by_cases hA:2*j+1+1<l'.length
  ·have hA2:2*(j:Int)+1+1<(l.length:Int):=by omega
   have hA3:2*(j:Int)+1<(l.length:Int):=by omega
   have hA4:decide (2*(j:Int)+1+1<(l.length:Int))=true:=decide_eq_true hA2;obtain ⟨r0,r1⟩:=Ay l' (2*j+1) (by omega);obtain ⟨r2,r3⟩:=Ay l' (2*j+1+1) hA;have q0:=(HH.out.ol.cellAt ((2*j+1)*2) (by omega)).trans r0;have q1:=(HH.out.ol.cellAt ((2*j+1)*2+1) (by omega)).trans r1;have q2:=(HH.out.ol.cellAt ((2*j+1+1)*2) (by omega)).trans r2;have q3:=(HH.out.ol.cellAt ((2*j+1+1)*2+1) (by omega)).trans r3;clear r0 r1 r2 r3;have e0:=fun p=>Ac p p0;have e3:=fun p=>Ac p q0;have e4:=fun p=>Ac p q1;have e5:=fun p=>Ac p q2;have e6:=fun p=>Ac p q3
   cases hls0:Bc (gI l' (2*j+1+1)) (gI l' (2*j+1)) with
   |true=>
    have HLS0:=Bi5 (fun W=>hls0▸Bq (gI l' (2*j+1+1)) (gI l' (2*j+1)) W);have HM:=Bi5 (show (2*j+1+1)=Ba l' j by unfold Ba;rw [if_pos ⟨hA,hls0⟩]);clear hls0
    go_wp2
    refine Ag (by kernel_rfl) (by kernel_rfl) ?_
    repeat (go_big_quiet_step ((go_at_call 262;exact Calls.ext_of (HLS0.out _))))
    refine wpQuiet_nil ?_;rintro _ ⟨p4,rfl⟩;have HB4:=Bi5 (Ah wr p4);generalize ext wr p4=w4 at HB4 ⊢;have HH4:=Bi5 (HH.out.go HB4.out);have HO4:=Bi5 (HO.out.trans (.of_below HB4.out));have HC4:=Bi5 (⟨Bi6 HB4.out c0,Bi6 HB4.out c1⟩:w4.cell? ⟨w.heap.size,0,none⟩=some (.int .i64 x.1)/\w4.cell? ⟨w.heap.size,1,none⟩=some (.int .u64 x.2));clear e0 e3 e4 e5 e6 q0 q1 q2 q3 c0 c1 p0;obtain ⟨p04,-⟩:=HH4.out.pb 0 _ rfl;obtain ⟨c04,c14⟩:=HC4.out;have e0:=fun p=>Ac p p04;have e1:=fun p=>Ac p c04;have e2:=fun p=>Ac p c14;have hml:2*j+1+1<l'.length:=hA;have hml2:(2*(j:Int)+1+1)<(l.length:Int):=by omega
    have hml3:decide ((2*(j:Int)+1+1)>=(l.length:Int))=false:=decide_eq_false (by omega);obtain ⟨r0,r1⟩:=Ay l' (2*j+1+1) hml;have q0:=(HH4.out.ol.cellAt ((2*j+1+1)*2) (by omega)).trans r0;have q1:=(HH4.out.ol.cellAt ((2*j+1+1)*2+1) (by omega)).trans r1;clear r0 r1;have e3:=fun p=>Ac p q0;have e4:=fun p=>Ac p q1
    cases hls:Bc (gI l' (2*j+1+1)) x with
    |true=>
     have HLS2:=Bi5 (fun W=>hls▸Bq (gI l' (2*j+1+1)) x W);have HST:=Bi5 (HRR.out.trans (Lu (by rw [<-HM.out];exact hml) (by rw [<-HM.out];exact hls)));rw [<-HM.out] at HST;have HY:=Bi5 (show 0<=(gI l' (2*j+1+1)).1/\(gI l' (2*j+1+1)).1.toNat<p'.length by rw [hpl];exact HI.out (2*j+1+1) hml);have HI2:=Bi5 (HI.out.set (i:=j) hj (by have:=HY.out;rwa [hpl] at this));clear hls
     go_wp2
     refine Ag (by kernel_rfl) (by kernel_rfl) ?_
     repeat (go_big_quiet_step ((go_at_call 262;exact Calls.ext_of (HLS2.out _))))
     refine wpQuiet_nil ?_;rintro _ ⟨p5,rfl⟩;have HB5:=Bi5 (Ah w4 p5);generalize ext w4 p5=w5 at HB5 ⊢;have HH5:=Bi5 (HH4.out.go HB5.out);have HO5:=Bi5 (HO4.out.trans (.of_below HB5.out));have HC5:=Bi5 (⟨Bi6 HB5.out c04,Bi6 HB5.out c14⟩:_/\_);have p05:=Bi6 HB5.out p04;have q05:=Bi6 HB5.out q0;have q15:=Bi6 HB5.out q1;clear e0 e1 e2 e3 e4 q0 q1 c04 c14 p04
     go_wp2_with (go_at_call 263;refine (HP.out l' p' j (gI l' (2*j+1+1)) _ HH5.out hj HY.out).mono ?_;rintro e w9 ⟨rfl,hh9,ho9⟩)
     have HH9:=Bi5 hh9;have HO9:=Bi5 (HO5.out.trans ho9);have HC9:=Bi5 (⟨ho9.cell HC5.out.1 (fun e=>HNX.out _ e rfl),ho9.cell HC5.out.2 (fun e=>HNX.out _ e rfl)⟩:w9.cell? ⟨w.heap.size,0,none⟩=some (.int .i64 x.1)/\w9.cell? ⟨w.heap.size,1,none⟩=some (.int .u64 x.2));clear hh9 ho9 p05 q05 q15
     go_roundg (l.length-(2*j+1+1))
     case measure=>omega
     case rel=>exact ⟨(2*j+1+1),l'.set j (gI l' (2*j+1+1)),p'.set (gI l' (2*j+1+1)).1.toNat (j:Int),by omega,by go_num,by rw [Bj6];omega,by rw [Bj6];exact hll,by rw [Bj6];exact hpl,HST.out,HH9.out,HI2.out,HO9.out,HC9.out⟩
    |false=>
     have HLS2:=Bi5 (fun W=>hls▸Bq (gI l' (2*j+1+1)) x W);have HWY:=Bi5 (show l'.length<=Ba l' j\/Bc (gI l' (Ba l' j)) x=false from .inr (by rw [<-HM.out];exact hls));clear hls
     go_wp2
     refine Ag (by kernel_rfl) (by kernel_rfl) ?_
     repeat (go_big_quiet_step ((go_at_call 262;exact Calls.ext_of (HLS2.out _))))
     refine wpQuiet_nil ?_;rintro _ ⟨p5,rfl⟩;have HB5:=Bi5 (Ah w4 p5);generalize ext w4 p5=w5 at HB5 ⊢;have HH5:=Bi5 (HH4.out.go HB5.out);have HO5:=Bi5 (HO4.out.trans (.of_below HB5.out));have c05:=Bi6 HB5.out c04;have c15:=Bi6 HB5.out c14;clear e0 e1 e2 e3 e4 q0 q1 c04 c14 p04
     go_wp2_with (go_at_call 263;refine (HP.out l' p' j x _ (HH5).out hj HXX.out).mono ?_;rintro e w9 ⟨rfl,hh9,ho9⟩)
     try simp only [Exit.noGoto]
     refine bodyPost_end (results_none rfl _ _ _) rfl ?_;refine ⟨rfl,?_,(HO5).out.trans ho9⟩;rw [HRR.out,Gt (HWY.out)];exact hh9
   |false=>
    have HLS0:=Bi5 (fun W=>hls0▸Bq (gI l' (2*j+1+1)) (gI l' (2*j+1)) W);have HM:=Bi5 (show (2*j+1)=Ba l' j by unfold Ba;rw [if_neg (by rintro ⟨_,h⟩;rw [hls0] at h;cases h)]);clear hls0
    go_wp2
    refine Ag (by kernel_rfl) (by kernel_rfl) ?_
    repeat (go_big_quiet_step ((go_at_call 262;exact Calls.ext_of (HLS0.out _))))
    refine wpQuiet_nil ?_;rintro _ ⟨p4,rfl⟩;have HB4:=Bi5 (Ah wr p4);generalize ext wr p4=w4 at HB4 ⊢;have HH4:=Bi5 (HH.out.go HB4.out);have HO4:=Bi5 (HO.out.trans (.of_below HB4.out));have HC4:=Bi5 (⟨Bi6 HB4.out c0,Bi6 HB4.out c1⟩:w4.cell? ⟨w.heap.size,0,none⟩=some (.int .i64 x.1)/\w4.cell? ⟨w.heap.size,1,none⟩=some (.int .u64 x.2));clear e0 e3 e4 e5 e6 q0 q1 q2 q3 c0 c1 p0;obtain ⟨p04,-⟩:=HH4.out.pb 0 _ rfl;obtain ⟨c04,c14⟩:=HC4.out;have e0:=fun p=>Ac p p04;have e1:=fun p=>Ac p c04;have e2:=fun p=>Ac p c14;have hml:2*j+1<l'.length:=by omega
    have hml2:(2*(j:Int)+1)<(l.length:Int):=by omega
    have hml3:decide ((2*(j:Int)+1)>=(l.length:Int))=false:=decide_eq_false (by omega);obtain ⟨r0,r1⟩:=Ay l' (2*j+1) hml;have q0:=(HH4.out.ol.cellAt ((2*j+1)*2) (by omega)).trans r0;have q1:=(HH4.out.ol.cellAt ((2*j+1)*2+1) (by omega)).trans r1;clear r0 r1;have e3:=fun p=>Ac p q0;have e4:=fun p=>Ac p q1
    cases hls:Bc (gI l' (2*j+1)) x with
    |true=>
     have HLS2:=Bi5 (fun W=>hls▸Bq (gI l' (2*j+1)) x W);have HST:=Bi5 (HRR.out.trans (Lu (by rw [<-HM.out];exact hml) (by rw [<-HM.out];exact hls)));rw [<-HM.out] at HST;have HY:=Bi5 (show 0<=(gI l' (2*j+1)).1/\(gI l' (2*j+1)).1.toNat<p'.length by rw [hpl];exact HI.out (2*j+1) hml);have HI2:=Bi5 (HI.out.set (i:=j) hj (by have:=HY.out;rwa [hpl] at this));clear hls
     go_wp2
     refine Ag (by kernel_rfl) (by kernel_rfl) ?_
     repeat (go_big_quiet_step ((go_at_call 262;exact Calls.ext_of (HLS2.out _))))
     refine wpQuiet_nil ?_;rintro _ ⟨p5,rfl⟩;have HB5:=Bi5 (Ah w4 p5);generalize ext w4 p5=w5 at HB5 ⊢;have HH5:=Bi5 (HH4.out.go HB5.out);have HO5:=Bi5 (HO4.out.trans (.of_below HB5.out));have HC5:=Bi5 (⟨Bi6 HB5.out c04,Bi6 HB5.out c14⟩:_/\_);have p05:=Bi6 HB5.out p04;have q05:=Bi6 HB5.out q0;have q15:=Bi6 HB5.out q1;clear e0 e1 e2 e3 e4 q0 q1 c04 c14 p04
     go_wp2_with (go_at_call 263;refine (HP.out l' p' j (gI l' (2*j+1)) _ HH5.out hj HY.out).mono ?_;rintro e w9 ⟨rfl,hh9,ho9⟩)
     have HH9:=Bi5 hh9;have HO9:=Bi5 (HO5.out.trans ho9);have HC9:=Bi5 (⟨ho9.cell HC5.out.1 (fun e=>HNX.out _ e rfl),ho9.cell HC5.out.2 (fun e=>HNX.out _ e rfl)⟩:w9.cell? ⟨w.heap.size,0,none⟩=some (.int .i64 x.1)/\w9.cell? ⟨w.heap.size,1,none⟩=some (.int .u64 x.2));clear hh9 ho9 p05 q05 q15
     go_roundg (l.length-(2*j+1))
     case measure=>omega
     case rel=>exact ⟨(2*j+1),l'.set j (gI l' (2*j+1)),p'.set (gI l' (2*j+1)).1.toNat (j:Int),by omega,by go_num,by rw [Bj6];omega,by rw [Bj6];exact hll,by rw [Bj6];exact hpl,HST.out,HH9.out,HI2.out,HO9.out,HC9.out⟩
    |false=>
     have HLS2:=Bi5 (fun W=>hls▸Bq (gI l' (2*j+1)) x W);have HWY:=Bi5 (show l'.length<=Ba l' j\/Bc (gI l' (Ba l' j)) x=false from .inr (by rw [<-HM.out];exact hls));clear hls
     go_wp2
     refine Ag (by kernel_rfl) (by kernel_rfl) ?_
     repeat (go_big_quiet_step ((go_at_call 262;exact Calls.ext_of (HLS2.out _))))
     refine wpQuiet_nil ?_;rintro _ ⟨p5,rfl⟩;have HB5:=Bi5 (Ah w4 p5);generalize ext w4 p5=w5 at HB5 ⊢;have HH5:=Bi5 (HH4.out.go HB5.out);have HO5:=Bi5 (HO4.out.trans (.of_below HB5.out));have c05:=Bi6 HB5.out c04;have c15:=Bi6 HB5.out c14;clear e0 e1 e2 e3 e4 q0 q1 c04 c14 p04
     go_wp2_with (go_at_call 263;refine (HP.out l' p' j x _ (HH5).out hj HXX.out).mono ?_;rintro e w9 ⟨rfl,hh9,ho9⟩)
     try simp only [Exit.noGoto]
     refine bodyPost_end (results_none rfl _ _ _) rfl ?_;refine ⟨rfl,?_,(HO5).out.trans ho9⟩;rw [HRR.out,Gt (HWY.out)];exact hh9
  ·have hA2:¬2*(j:Int)+1+1<(l.length:Int):=by omega
   have hA4:decide (2*(j:Int)+1+1<(l.length:Int))=false:=decide_eq_false hA2;have e0:=fun p=>Ac p p0;have HM:=Bi5 (show (2*j+1)=Ba l' j by unfold Ba;rw [if_neg (by rintro ⟨h,_⟩;exact hA h)])
   go_wp2
   refine Ag (by kernel_rfl) (by kernel_rfl) ?_
   repeat (go_big_quiet_step (fail))
   refine wpQuiet_nil ?_;rintro _ ⟨p4,rfl⟩;have HB4:=Bi5 (Ah wr p4);generalize ext wr p4=w4 at HB4 ⊢;have HH4:=Bi5 (HH.out.go HB4.out);have HO4:=Bi5 (HO.out.trans (.of_below HB4.out));have HC4:=Bi5 (⟨Bi6 HB4.out c0,Bi6 HB4.out c1⟩:w4.cell? ⟨w.heap.size,0,none⟩=some (.int .i64 x.1)/\w4.cell? ⟨w.heap.size,1,none⟩=some (.int .u64 x.2));clear e0 c0 c1 p0;obtain ⟨p04,-⟩:=HH4.out.pb 0 _ rfl;obtain ⟨c04,c14⟩:=HC4.out;have e0:=fun p=>Ac p p04;have e1:=fun p=>Ac p c04;have e2:=fun p=>Ac p c14
   by_cases hml:2*j+1<l'.length
   ·skip
    have hml2:(2*(j:Int)+1)<(l.length:Int):=by omega
    have hml3:decide ((2*(j:Int)+1)>=(l.length:Int))=false:=decide_eq_false (by omega);obtain ⟨r0,r1⟩:=Ay l' (2*j+1) hml;have q0:=(HH4.out.ol.cellAt ((2*j+1)*2) (by omega)).trans r0;have q1:=(HH4.out.ol.cellAt ((2*j+1)*2+1) (by omega)).trans r1;clear r0 r1;have e3:=fun p=>Ac p q0;have e4:=fun p=>Ac p q1
    cases hls:Bc (gI l' (2*j+1)) x with
    |true=>
     have HLS2:=Bi5 (fun W=>hls▸Bq (gI l' (2*j+1)) x W);have HST:=Bi5 (HRR.out.trans (Lu (by rw [<-HM.out];exact hml) (by rw [<-HM.out];exact hls)));rw [<-HM.out] at HST;have HY:=Bi5 (show 0<=(gI l' (2*j+1)).1/\(gI l' (2*j+1)).1.toNat<p'.length by rw [hpl];exact HI.out (2*j+1) hml);have HI2:=Bi5 (HI.out.set (i:=j) hj (by have:=HY.out;rwa [hpl] at this));clear hls
     go_wp2
     refine Ag (by kernel_rfl) (by kernel_rfl) ?_
     repeat (go_big_quiet_step ((go_at_call 262;exact Calls.ext_of (HLS2.out _))))
     refine wpQuiet_nil ?_;rintro _ ⟨p5,rfl⟩;have HB5:=Bi5 (Ah w4 p5);generalize ext w4 p5=w5 at HB5 ⊢;have HH5:=Bi5 (HH4.out.go HB5.out);have HO5:=Bi5 (HO4.out.trans (.of_below HB5.out));have HC5:=Bi5 (⟨Bi6 HB5.out c04,Bi6 HB5.out c14⟩:_/\_);have p05:=Bi6 HB5.out p04;have q05:=Bi6 HB5.out q0;have q15:=Bi6 HB5.out q1;clear e0 e1 e2 e3 e4 q0 q1 c04 c14 p04
     go_wp2_with (go_at_call 263;refine (HP.out l' p' j (gI l' (2*j+1)) _ HH5.out hj HY.out).mono ?_;rintro e w9 ⟨rfl,hh9,ho9⟩)
     have HH9:=Bi5 hh9;have HO9:=Bi5 (HO5.out.trans ho9);have HC9:=Bi5 (⟨ho9.cell HC5.out.1 (fun e=>HNX.out _ e rfl),ho9.cell HC5.out.2 (fun e=>HNX.out _ e rfl)⟩:w9.cell? ⟨w.heap.size,0,none⟩=some (.int .i64 x.1)/\w9.cell? ⟨w.heap.size,1,none⟩=some (.int .u64 x.2));clear hh9 ho9 p05 q05 q15
     go_roundg (l.length-(2*j+1))
     case measure=>omega
     case rel=>exact ⟨(2*j+1),l'.set j (gI l' (2*j+1)),p'.set (gI l' (2*j+1)).1.toNat (j:Int),by omega,by go_num,by rw [Bj6];omega,by rw [Bj6];exact hll,by rw [Bj6];exact hpl,HST.out,HH9.out,HI2.out,HO9.out,HC9.out⟩
    |false=>
     have HLS2:=Bi5 (fun W=>hls▸Bq (gI l' (2*j+1)) x W);have HWY:=Bi5 (show l'.length<=Ba l' j\/Bc (gI l' (Ba l' j)) x=false from .inr (by rw [<-HM.out];exact hls));clear hls
     go_wp2
     refine Ag (by kernel_rfl) (by kernel_rfl) ?_
     repeat (go_big_quiet_step ((go_at_call 262;exact Calls.ext_of (HLS2.out _))))
     refine wpQuiet_nil ?_;rintro _ ⟨p5,rfl⟩;have HB5:=Bi5 (Ah w4 p5);generalize ext w4 p5=w5 at HB5 ⊢;have HH5:=Bi5 (HH4.out.go HB5.out);have HO5:=Bi5 (HO4.out.trans (.of_below HB5.out));have c05:=Bi6 HB5.out c04;have c15:=Bi6 HB5.out c14;clear e0 e1 e2 e3 e4 q0 q1 c04 c14 p04
     go_wp2_with (go_at_call 263;refine (HP.out l' p' j x _ (HH5).out hj HXX.out).mono ?_;rintro e w9 ⟨rfl,hh9,ho9⟩)
     try simp only [Exit.noGoto]
     refine bodyPost_end (results_none rfl _ _ _) rfl ?_;refine ⟨rfl,?_,(HO5).out.trans ho9⟩;rw [HRR.out,Gt (HWY.out)];exact hh9
   ·skip
    have hml2:(l.length:Int)<=(2*(j:Int)+1):=by omega
    have HWY:=Bi5 (show l'.length<=Ba l' j\/Bc (gI l' (Ba l' j)) x=false from .inl (by rw [<-HM.out];omega))
    go_wp2
    refine Ag (by kernel_rfl) (by kernel_rfl) ?_
    repeat (go_big_quiet_step (fail))
    refine wpQuiet_nil ?_;rintro _ ⟨p5,rfl⟩;have HB5:=Bi5 (Ah w4 p5);generalize ext w4 p5=w5 at HB5 ⊢;have HH5:=Bi5 (HH4.out.go HB5.out);have HO5:=Bi5 (HO4.out.trans (.of_below HB5.out));have c05:=Bi6 HB5.out c04;have c15:=Bi6 HB5.out c14;clear e0 e1 e2 c04 c14 p04
    go_wp2_with (go_at_call 263;refine (HP.out l' p' j x _ (HH5).out hj HXX.out).mono ?_;rintro e w9 ⟨rfl,hh9,ho9⟩)
    try simp only [Exit.noGoto]
    refine bodyPost_end (results_none rfl _ _ _) rfl ?_;refine ⟨rfl,?_,(HO5).out.trans ho9⟩;rw [HRR.out,Gt (HWY.out)];exact hh9
end
end Go.Proofs.YteaaapdjplbljaaGreat
