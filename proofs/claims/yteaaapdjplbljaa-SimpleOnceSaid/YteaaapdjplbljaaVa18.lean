/- (both directions) Walk of package adj: New, the rows, and the edges of a node, told one by one. -/
import Derived.Test.YteaaapdjplbljaaProg
import Derived.Test.YteaaapdjplbljaaVa15
import Derived.Test.YteaaapdjplbljaaVa16
import Derived.Test.YteaaapdjplbljaaVa17
set_option linter.unusedVariables false
set_option linter.unusedSimpArgs false
set_option linter.unnecessarySimpa false
namespace Go.Proofs.Yteaaapdjplbljaa.Ad
open Go Go.Proofs Go.RowKit Go.Shelf Go.Proofs.Yteaaapdjplbljaa Go.Proofs.Yteaaapdjplbljaa.Hp Go.Proofs.Yteaaapdjplbljaa.Ns Go.Proofs.Yteaaapdjplbljaa.Ch
theorem from_key:CmpKey 59 (fun e=>e.f):=by
 intro e W
 go_enter Try.func59,Try.ntmps59
 go_wp2
 go_ret
 exact ⟨rfl,Below.of_al _ _⟩
theorem to_key:CmpKey 60 (fun e=>e.t):=by
 intro e W
 go_enter Try.func60,Try.ntmps60
 go_wp2
 go_ret
 exact ⟨rfl,Below.of_al _ _⟩
structure RwM (W:World) (lo hi E G n m:Nat) (kf:Nat→Nat) (xs:List Int):Prop where
 ep:EdgP kf m m xs
 ce:Cel W (some ⟨E,0,none⟩) (xs.map encI)
 cg:Cel W (some ⟨G,0,none⟩) ((midL kf n m n).map encI)
 be:lo≤E∧E<hi
 bg:lo≤G∧G<hi
theorem _root_.Go.Proofs.Yteaaapdjplbljaa.Cel.at0 {W:World} {E:Nat} {xs:List Int} (h:Cel W (some ⟨E,0,none⟩) (xs.map encI)) {i:Nat} {x:Int} (hx:xs[i]? =some x):W.cell? ⟨E,i,none⟩=some (.int .i64 x):=by
 obtain ⟨b,o,e,h⟩:=h i (.int .i64 x) (by rw [List.getElem?_map,hx];rfl)
 cases e
 rwa [Nat.zero_add] at h
theorem _root_.Go.Proofs.Yteaaapdjplbljaa.Cel.kept {W W':World} {lo hi E:Nat} {xs:List Value} (h:Cel W (some ⟨E,0,none⟩) xs) (hk:∀k,lo≤k→k<hi→W'.heap[k]? =W.heap[k]?) (hb:lo≤E∧E<hi):Cel W' (some ⟨E,0,none⟩) xs:=fun i u hu=>by
 obtain ⟨b,o,e,h⟩:=h i u hu
 cases e
 exact ⟨E,0,rfl,(World.cell?_of_block (w:=W) (hk E hb.1 hb.2)).trans h⟩
theorem RwM.kept {W W':World} {lo hi E G n m:Nat} {kf:Nat→Nat} {xs:List Int} (h:RwM W lo hi E G n m kf xs) (hk:∀k,lo≤k→k<hi→W'.heap[k]? =W.heap[k]?):RwM W' lo hi E G n m kf xs:=
 ⟨h.ep,h.ce.kept hk h.be,h.cg.kept hk h.bg,h.be,h.bg⟩
set_option maxRecDepth 100000 in
set_option maxHeartbeats 2000000 in
theorem of_any (lo hi E G n m:Nat) (kf:Nat→Nat) (xs:List Int) (v:Nat) (w:World) (h:RwM w lo hi E G n m kf xs) (hv:v<n) (hn:n≤50000) (hm:m≤50000) (hkf:∀i,i<m→kf i<n):
  Calls Try.prog 79 #[.agg #[.slice (some ⟨E,0,none⟩) m m,.slice (some ⟨G,0,none⟩) (n+1) (n+1)],.int .i64 (v:Int)] w fun e w'=>
   ∃ao,e=.returned (.slice ao (idxN kf m v).length (idxN kf m v).length)∧Cel w' ao ((idxN kf m v).map encI)∧(∀x,ao=some x→lo≤x.block∧x.block<hi)∧Below w.heap.size w w':=by
 have hg0:(midL kf n m n)[v]? =some (preN kf m v:Int):=by rw [atL_start,atL_at (by omega)];simp [cntN]
 have hg1:(midL kf n m n)[v+1]? =some (preN kf m (v+1):Int):=by rw [atL_start,atL_at (by omega)];simp [cntN]
 have hlen:(idxN kf m v).length=preN kf m (v+1)-preN kf m v:=by rw [idxN_len,preN_succ];omega
 have hle1:preN kf m v≤preN kf m (v+1):=preN_mono kf (Nat.le_succ v) m
 have hle2:preN kf m (v+1)≤m:=preN_le kf (v+1) m
 obtain ⟨W,hW⟩:∃W,W=w.alloc (Obj.cells #[.slice (some ⟨E,0,none⟩) m m,.slice (some ⟨G,0,none⟩) (n+1) (n+1)] 86):=⟨_,rfl⟩
 have hbw:Below w.heap.size w W:=by rw [hW];exact Below.of_al _ _
 have c0:W.cell? ⟨w.heap.size,0,none⟩=some (.slice (some ⟨E,0,none⟩) m m):=by rw [hW];go_simp
 have c1:W.cell? ⟨w.heap.size,1,none⟩=some (.slice (some ⟨G,0,none⟩) (n+1) (n+1)):=by rw [hW];go_simp
 have g0:=(h.cg.go hbw).at0 hg0
 have g1:=(h.cg.go hbw).at0 hg1
 have HR:=Lib.hid (fun W' (hz:Below w.heap.size w W')=>(show Cel W' (some ⟨E,preN kf m v,none⟩) ((idxN kf m v).map encI) from fun j u hu=>by
  rw [List.getElem?_map] at hu
  obtain ⟨x,hx,rfl⟩:=Option.map_eq_some_iff.1 hu
  exact ⟨E,preN kf m v,rfl,(h.ce.go hz).at0 (h.ep.row v hx)⟩))
 have HBE:=Lib.hid h.be
 have HW:=Lib.hid hW
 have HB:=Lib.hid hbw
 have HLN:=Lib.hid hlen
 have HNI:=Lib.hid (fun (h:preN kf m (v+1)=preN kf m v)=>(List.eq_nil_of_length_eq_zero (by rw [hlen];omega):idxN kf m v=[]))
 have hv0:(0:Int)≤(v:Int):=by omega
 have hvn:decide ((v:Int)<0)=false:=by simp
 have hv1:decide ((n:Int)+1≤(v:Int)+1)=false:=by simp;omega
 have hv2:(v:Int)<(n:Int)+1:=by omega
 have hv3:(v:Int)+1<(n:Int)+1:=by omega
 have hwq:IntKind.i64.wrap ((v:Int)+1)=(v:Int)+1:=by rw [IntKind.wrap_i64];omega
 clear h hbw hW hg0 hg1 hkf
 generalize (idxN kf m v).length=L at*
 generalize preN kf m v=p0 at*
 generalize preN kf m (v+1)=p1 at*
 obtain rfl:=HLN.out
 have q0:(0:Int)≤(p0:Int):=by omega
 have q1:(p0:Int)≤(p1:Int):=by omega
 have q2:(p1:Int)≤(m:Int):=by omega
 by_cases hE:p1=p0
 ·have hnil:=HNI.out hE
  subst hE
  go_enter Try.func79,Try.ntmps79
  go_upto_region 1 with (fail)
  rw [←HW.out]
  go_wp2
  go_quiet (fail)
  go_wp2
  go_ret
  exact ⟨some ⟨E,0,none⟩,by first|rfl|simp,by rw [hnil];exact Cel.nil _ _,fun x hx=>by cases hx;exact HBE.out,HB.out.dr _⟩
 ·go_enter Try.func79,Try.ntmps79
  go_upto_region 1 with (fail)
  rw [←HW.out]
  go_wp2
  go_quiet (fail)
  go_wp2
  go_ret
  exact ⟨_,rfl,HR.out _ (HB.out.dr _),fun x hx=>by cases hx;exact HBE.out,HB.out.dr _⟩
def keyE (b:Bool) (e:EdgeD):Int:=if b then e.t else e.f
structure AdjM (W:World) (lo hi ab n:Nat) (es:List EdgeD):Prop where
 c0:W.cell? ⟨ab,0,none⟩=some (.int .i64 (n:Int))
 c1:∃a c,W.cell? ⟨ab,1,none⟩=some (.slice a es.length c)∧Cel W a (flat es)∧∀x,a=some x→es≠[]→lo≤x.block∧x.block<hi
 c2:∀b:Bool,∃E G xs,W.cell? ⟨ab,if b then 4 else 2,none⟩=some (.slice (some ⟨E,0,none⟩) es.length es.length)∧W.cell? ⟨ab,if b then 5 else 3,none⟩=some (.slice (some ⟨G,0,none⟩) (n+1) (n+1))∧RwM W lo hi E G n es.length (kfE (keyE b) es) xs
 ba:lo≤ab∧ab<hi
theorem AdjM.kept {W W':World} {lo hi ab n:Nat} {es:List EdgeD} (h:AdjM W lo hi ab n es) (hk:∀k,lo≤k→k<hi→W'.heap[k]? =W.heap[k]?):AdjM W' lo hi ab n es:=by
 have hc:∀{j v},W.cell? ⟨ab,j,none⟩=some v→W'.cell? ⟨ab,j,none⟩=some v:=fun {j v} hj=>(World.cell?_of_block (w:=W) (hk ab h.ba.1 h.ba.2)).trans hj
 obtain ⟨a,c,h1,h2,h3⟩:=h.c1
 refine ⟨hc h.c0,⟨a,c,hc h1,fun i u hu=>?_,h3⟩,fun b=>?_,h.ba⟩
 rotate_left
 ·obtain ⟨E,G,xs,k1,k2,k3⟩:=h.c2 b
  exact ⟨E,G,xs,hc k1,hc k2,k3.kept hk⟩
 obtain ⟨b,o,e,h⟩:=h2 i u hu
 have:=h3 _ e (fun e9=>by rw [e9] at hu;simp [flat] at hu)
 exact ⟨b,o,e,(World.cell?_of_block (w:=W) (hk b this.1 this.2)).trans h⟩
theorem AdjM.go {W W':World} {lo hi ab n:Nat} {es:List EdgeD} (h:AdjM W lo hi ab n es) (hb:Below W.heap.size W W') (hh:hi≤W.heap.size):AdjM W' lo hi ab n es:=h.kept fun k _ h2=>hb.block k (by omega)
def outI (es:List EdgeD) (bk:Bool) (v:Nat):List Int:=idxN (kfE (keyE bk) es) es.length v
set_option maxRecDepth 100000 in
set_option maxHeartbeats 1000000 in
theorem row_any (lo hi ab n:Nat) (es:List EdgeD) (bk:Bool) (v:Nat) (w:World) (h:AdjM w lo hi ab n es) (hv:v<n) (hn:n≤50000) (hm:es.length≤50000) (hes:∀e∈es,nodeN n (keyE bk e)):
  Calls Try.prog 62 #[.pointer (some ⟨ab,0,none⟩),.int .i64 (v:Int),.bool bk] w fun e w'=>
   ∃ao,e=.returned (.slice ao (outI es bk v).length (outI es bk v).length)∧Cel w' ao ((outI es bk v).map encI)∧(∀x,ao=some x→lo≤x.block∧x.block<hi)∧Below w.heap.size w w':=by
 obtain ⟨E,G,xs,k1,k2,k3⟩:=h.c2 bk
 have HO:=Lib.hid (of_any lo hi E G n es.length _ xs v w k3 hv hn hm (fun i hi=>by
  have h9:=hes _ (List.getElem_mem hi)
  unfold kfE
  rw [show es.getD i ⟨0,0,0⟩=es[i] by simp [List.getD,hi]]
  show (keyE bk es[i]).toNat<n
  unfold nodeN at h9
  omega))
 clear h k3 hes
 unfold outI
 generalize idxN _ es.length v=L at*
 cases bk
 all_goals
  simp only [if_true,Bool.false_eq_true,if_false] at k1 k2
  go_enter Try.func62,Try.ntmps62
  go_wp2_with (go_at_call 79;refine HO.out.mono ?_;rintro e w1 ⟨ao,rfl,h1,h2,h3⟩;(have HF:=Lib.hid (And.intro h1 (And.intro h2 h3)));clear h1 h2 h3)
  go_ret
  exact ⟨ao,rfl,HF.out⟩
theorem each_any (ab:Nat) (v:Int) (bk:Bool) (w:World):
  Calls Try.prog 44 #[.pointer (some ⟨ab,0,none⟩),.int .i64 v,.bool bk] w fun e w'=>
   e=.returned (.func (.func 61) #[] #[.pointer (some ⟨w.heap.size,0,none⟩),.pointer (some ⟨w.heap.size+1,0,none⟩),.pointer (some ⟨w.heap.size+2,0,none⟩)])∧Below w.heap.size w w'∧w'.heap.size=w.heap.size+3∧
   w'.cell? ⟨w.heap.size,0,none⟩=some (.pointer (some ⟨ab,0,none⟩))∧w'.cell? ⟨w.heap.size+1,0,none⟩=some (.int .i64 v)∧w'.cell? ⟨w.heap.size+2,0,none⟩=some (.bool bk):=by
 have hmf:∀(fn:Fn) (first cap:Array Value) (w:World),(Instr.makeFunc fn first cap).run Try.prog w=.ok (.func fn first cap) w:=fun _ _ _ _=>rfl
 go_enter Try.func44,Try.ntmps44
 go_wp2
 go_ret
 refine ⟨rfl,((Below.of_al _ _).al _).al _,by simp,by go_simp,by go_simp,by go_simp⟩
abbrev StepE:=Int×EdgeD
def stepE (es:List EdgeD) (i:Int):StepE:=(i,es.getD i.toNat ⟨0,0,0⟩)
def stepsE (es:List EdgeD) (bk:Bool) (v:Nat):List StepE:=(outI es bk v).map (stepE es)
def encSE (x:StepE):Array Value:=#[.int .i64 x.1,encE x.2]
def KpA (lo hi B k:Nat):Prop:=(lo≤k∧k<hi)∨(B≤k∧k<B+3)
set_option maxHeartbeats 4000000 in
set_option maxRecDepth 100000 in
theorem each_gives (m:Nat) (hm:1≤m) (lo hi ab n:Nat) (es:List EdgeD) (bk:Bool) (v B:Nat) (w:World) (h:AdjM w lo hi ab n es) (hv:v<n) (hn:n≤50000) (hel:es.length≤50000) (hes:∀e∈es,nodeN n (keyE bk e)) (hhi:hi≤w.heap.size) (hB:B+3≤w.heap.size)
  (c0:w.cell? ⟨B,0,none⟩=some (.pointer (some ⟨ab,0,none⟩))) (c1:w.cell? ⟨B+1,0,none⟩=some (.int .i64 (v:Int))) (c2:w.cell? ⟨B+2,0,none⟩=some (.bool bk)):
  SeqK Fence.wide m Try.prog 61 #[.pointer (some ⟨B,0,none⟩),.pointer (some ⟨B+1,0,none⟩),.pointer (some ⟨B+2,0,none⟩)] encSE (stepsE es bk v) (KpA lo hi B) w:=by
 intro l J Jx W hk hJ hJx hY hJ0
 refine callsIn_of_wp Try.func61 rfl trivial ?_ rfl
 simp only [Try.ntmps61,List.size_toArray,List.length_cons,List.length_nil,Nat.reduceAdd,Nat.reduceSub,Array.replicate_succ,Array.replicate_zero,List.push_toArray,List.append_toArray,List.nil_append,List.cons_append]
 have hcB:∀{W':World} {j k:Nat} {u:Value},(∀k,KpA lo hi B k→W'.heap[k]? =w.heap[k]?)→j<3→w.cell? ⟨B+j,k,none⟩=some u→W'.cell? ⟨B+j,k,none⟩=some u:=fun hk hj hc=>by
  rw [World.cell?_of_block (w:=w) (hk (B+_) (.inr ⟨Nat.le_add_right _ _,Nat.add_lt_add_left hj _⟩))]
  exact hc
 have e0:W.cell? ⟨B,0,none⟩=some (.pointer (some ⟨ab,0,none⟩)):=hcB (j:=0) hk.2 (by omega) c0
 have e1:W.cell? ⟨B+1,0,none⟩=some (.int .i64 (v:Int)):=hcB (j:=1) hk.2 (by omega) c1
 have e2:W.cell? ⟨B+2,0,none⟩=some (.bool bk):=hcB (j:=2) hk.2 (by omega) c2
 have HA:=Lib.hid (h.kept fun k h1 h2=>hk.2 k (.inl ⟨h1,h2⟩))
 have HHI:=Lib.hid (Nat.le_trans hhi hk.1)
 have HBW:=Lib.hid (Nat.le_trans hB hk.1)
 have HRW:=Lib.hid (row_any lo hi ab n es bk v W HA.out hv hn hel hes)
 have HJ:=Lib.hid hJ
 have HY:=Lib.hid hY
 have HIM:=Lib.hid (show ∀i∈outI es bk v,∃j:Nat,i=(j:Int)∧j<es.length from fun i hi=>by
  obtain ⟨j,e,h1,_⟩:=idxN_mem.1 hi
  exact ⟨j,e,h1⟩)
 have hrlen:(outI es bk v).length≤1000000:=by
  unfold outI
  rw [idxN_len]
  have:=cntN_le (kfE (keyE bk) es) v es.length
  omega
 have hel2:(es.length:Int)≤50000:=by omega
 unfold stepsE at HY ⊢
 generalize outI es bk v=row at*
 clear hk hJ hJx hY h hes c0 c1 c2 hcB hhi hB
 gi_wp2_with (refine ⟨trivial,?_⟩;gi_at_call 62;refine (callsIn_wide.2 HRW.out).mono ?_;rintro e w1 ⟨ra,rfl,h1,h2,h3⟩;(have HRC:=Lib.hid h1);(have HRB:=Lib.hid h2);(have HB1:=Lib.hid h3);clear h1 h2 h3)
 have HA1:=Lib.hid (HA.out.go HB1.out HHI.out)
 have HJ1:=Lib.hid (HJ.out _ _ _ hJ0 (OffX.of_below HB1.out))
 have HZ1:=Lib.hid (And.intro (Nat.le_trans HHI.out HB1.out.size) (Nat.le_trans HBW.out HB1.out.size))
 have d0:=cell_later HB1.out e0
 clear HA HRW hJ0 e0 e1 e2
 gi_loopg [12] row.length (fun gg vi wr=>∃k:Nat,k≤row.length∧row.length-k≤gg∧vi=.int .i64 (k:Int)∧Aside (KeepX (KpA lo hi B) w1 wr)∧Aside (J ((row.take k).map (stepE es)) wr))
 case atStart=>exact ⟨0,Nat.zero_le _,by omega,rfl,⟨Nat.le_refl _,fun _ _=>rfl⟩,HJ1.out⟩
 case round=>
  clear HJ1
  obtain ⟨k,hk,hgg,rfl,HKX,HJr⟩:=hrel
  have f0:wr.cell? ⟨B,0,none⟩=some (.pointer (some ⟨ab,0,none⟩)):=(World.cell?_of_block (a:=⟨B,0,none⟩) (HKX.2 B (.inr ⟨Nat.le_refl _,by omega⟩))).trans d0
  have HAr:=Lib.hid (HA1.out.kept fun k h1 h2=>HKX.2 k (.inl ⟨h1,h2⟩))
  by_cases hlt:k<row.length
  ·have hlt2:(k:Int)<(row.length:Int):=by omega
   have hk0:(0:Int)≤(k:Int):=by omega
   obtain ⟨rb,ro,rfl,y0⟩:=HRC.out.at hlt
   have y1:=(World.cell?_of_block (w:=w1) (w':=wr) (a:=⟨rb,ro+k,none⟩) (HKX.2 rb (.inl (HRB.out _ rfl)))).trans y0
   obtain ⟨i,hi,hil⟩:=HIM.out _ (List.getElem_mem hlt)
   have HPX:=Lib.hid (show (row.take k).map (stepE es)++[stepE es row[k]] <+:row.map (stepE es) by
    refine ⟨(row.drop (k+1)).map (stepE es),?_⟩
    rw [←List.map_singleton,←List.map_append,←List.take_succ_eq_append_getElem hlt,←List.map_append,List.take_append_drop])
   have HTK:=Lib.hid (show (row.take (k+1)).map (stepE es)=(row.take k).map (stepE es)++[stepE es row[k]] by rw [List.take_succ_eq_append_getElem hlt,List.map_append];rfl)
   have hst:stepE es row[k]=((i:Int),es[i]):=by
    unfold stepE
    rw [hi,Int.toNat_natCast,List.getD_eq_getElem?_getD,List.getElem?_eq_getElem hil]
    rfl
   rw [hst] at HPX HTK
   rw [hi] at y1
   clear hst hi y0
   obtain ⟨ga,gc,c1,g2,g3⟩:=HAr.out.c1
   obtain ⟨gb,go,hga,a0,a1,a2⟩:=g2.edge hil
   have hil2:(i:Int)<(es.length:Int):=by omega
   have hi0:(0:Int)≤(i:Int):=by omega
   generalize es[i]=x at*
   obtain ⟨xf,xt,xw⟩:=x
   simp only at a0 a1 a2
   subst hga
   obtain ⟨fn,tmps,assign,body,hy,hR⟩:=HY.out _ _ wr HJr HPX.out
   have HRR:=Lib.hid hR
   dsimp only [encSE] at hy
   have HKH:=Lib.hid HKX
   clear hR g2 g3 HJr HKX
   gi_wp2
   refine HRR.out.mono ?_
   rintro e W' (⟨rfl,hJ',hk'⟩|⟨rfl,hJx'⟩)
   ·have HJ2:=Lib.hid hJ'
    have HK2:=Lib.hid (show KeepX (KpA lo hi B) w1 W' from HKH.out.trans hk')
    clear hJ' hk' hy y1 f0 c1 a0 a1 a2
    gi_wp2
    gi_roundg (row.length-(k+1))
    case rel=>exact ⟨k+1,by omega,Nat.le_refl _,by go_num,HK2.out,by rw [HTK.out];exact HJ2.out⟩
    case measure=>omega
   ·have HJ2:=Lib.hid hJx'
    clear hJx' hy
    gi_wp2
    refine bodyPost_ret (results_none rfl _ _ _) rfl ?_
    exact ⟨⟨_,rfl⟩,.inr ⟨_,HPX.out,HJ2.out⟩⟩
  ·obtain rfl:k=row.length:=by omega
   gi_wp2
   go_end0
   refine ⟨⟨_,rfl⟩,.inl ?_⟩
   have:=HJr
   rwa [List.take_length] at this
theorem RwM.mono {W:World} {lo hi hi' E G n m:Nat} {kf:Nat→Nat} {xs:List Int} (h:RwM W lo hi E G n m kf xs) (hh:hi≤hi'):RwM W lo hi' E G n m kf xs:=⟨h.ep,h.ce,h.cg,⟨h.be.1,by have:=h.be.2;omega⟩,⟨h.bg.1,by have:=h.bg.2;omega⟩⟩
theorem AdjM.mono {W:World} {lo hi hi' ab n:Nat} {es:List EdgeD} (h:AdjM W lo hi ab n es) (hh:hi≤hi'):AdjM W lo hi' ab n es:=by
 obtain ⟨a,c,h1,h2,h3⟩:=h.c1
 exact ⟨h.c0,⟨a,c,h1,h2,fun x hx he=>by have:=h3 x hx he;omega⟩,fun b=>let ⟨E,G,xs,k1,k2,k3⟩:=h.c2 b;⟨E,G,xs,k1,k2,k3.mono hh⟩,⟨h.ba.1,by have:=h.ba.2;omega⟩⟩
def anR (bx:Nat) (a:Option Addr) (c n lo:Nat) (es:List EdgeD):Nat→Value→World→Prop
 |0,v,_=>v=gV n a es.length c
 |1,v,_=>v=.pointer (some ⟨bx,0,none⟩)
 |2,v,_=>v=.int .i64 (n:Int)
 |3,v,_=>v=.pointer (some ⟨bx,1,none⟩)
 |4,v,_=>v=.slice a es.length c
 |5,v,W=>∃E G xs,v=.agg #[.slice (some ⟨E,0,none⟩) es.length es.length,.slice (some ⟨G,0,none⟩) (n+1) (n+1)]∧RwM W lo W.heap.size E G n es.length (kfE (fun e=>e.f) es) xs
 |6,v,_=>v=.pointer (some ⟨bx,0,none⟩)
 |7,v,_=>v=.int .i64 (n:Int)
 |8,v,_=>v=.pointer (some ⟨bx,1,none⟩)
 |9,v,_=>v=.slice a es.length c
 |10,v,W=>∃x y ys,v=.agg #[.slice (some ⟨x,0,none⟩) es.length es.length,.slice (some ⟨y,0,none⟩) (n+1) (n+1)]∧RwM W lo W.heap.size x y n es.length (kfE (fun e=>e.t) es) ys
 |11,v,W=>∃E G xs x y ys,v=.agg #[.int .i64 (n:Int),.slice a es.length c,.slice (some ⟨E,0,none⟩) es.length es.length,.slice (some ⟨G,0,none⟩) (n+1) (n+1),.slice (some ⟨x,0,none⟩) es.length es.length,.slice (some ⟨y,0,none⟩) (n+1) (n+1)]∧
   RwM W lo W.heap.size E G n es.length (kfE (fun e=>e.f) es) xs∧RwM W lo W.heap.size x y n es.length (kfE (fun e=>e.t) es) ys
 |12,v,W=>∃ab,v=.pointer (some ⟨ab,0,none⟩)∧AdjM W lo W.heap.size ab n es
 |13,v,W=>∃ab,v=.pointer (some ⟨ab,0,none⟩)∧AdjM W lo W.heap.size ab n es
 |14,v,_=>v=.int .i64 0
 |_,_,_=>True
theorem anR_go {bx:Nat} {a:Option Addr} {c n lo:Nat} {es:List EdgeD}:∀(i:Nat) (v:Value) (w w':World),Below w.heap.size w w'→anR bx a c n lo es i v w→anR bx a c n lo es i v w'
 |0,_,_,_,_,h|1,_,_,_,_,h|2,_,_,_,_,h|3,_,_,_,_,h|4,_,_,_,_,h|6,_,_,_,_,h|7,_,_,_,_,h|8,_,_,_,_,h|9,_,_,_,_,h|14,_,_,_,_,h=>h
 |5,_,_,_,hb,h=>let ⟨E,G,xs,h1,h2⟩:=h;⟨E,G,xs,h1,(h2.kept fun k _ hk=>hb.block k hk).mono hb.size⟩
 |10,_,_,_,hb,h=>let ⟨E,G,xs,h1,h2⟩:=h;⟨E,G,xs,h1,(h2.kept fun k _ hk=>hb.block k hk).mono hb.size⟩
 |11,_,_,_,hb,h=>let ⟨E,G,xs,x,y,ys,h1,h2,h3⟩:=h;⟨E,G,xs,x,y,ys,h1,(h2.kept fun k _ hk=>hb.block k hk).mono hb.size,(h3.kept fun k _ hk=>hb.block k hk).mono hb.size⟩
 |12,_,_,_,hb,h|13,_,_,_,hb,h=>let ⟨ab,h1,h2⟩:=h;⟨ab,h1,(h2.kept fun k _ hk=>hb.block k hk).mono hb.size⟩
 |_+15,_,_,_,_,_=>trivial
theorem adj_new {W:World} {lo E G n m' x y:Nat} {es:List EdgeD} {xs ys:List Int} {a:Option Addr} {c:Nat} (h:RwM W lo W.heap.size E G n es.length (kfE (fun e=>e.f) es) xs) (h':RwM W lo W.heap.size x y n es.length (kfE (fun e=>e.t) es) ys) (hc:Cel W a (flat es)) (ha:∀z,a=some z→lo≤z.block) (hlo:lo≤W.heap.size) (T:TypeId):
  AdjM (W.alloc (.cells #[.int .i64 (n:Int),.slice a es.length c,.slice (some ⟨E,0,none⟩) es.length es.length,.slice (some ⟨G,0,none⟩) (n+1) (n+1),.slice (some ⟨x,0,none⟩) es.length es.length,.slice (some ⟨y,0,none⟩) (n+1) (n+1)] T)) lo (W.heap.size+1) W.heap.size n es:=by
 have hb:=Below.of_al W (.cells #[.int .i64 (n:Int),.slice a es.length c,.slice (some ⟨E,0,none⟩) es.length es.length,.slice (some ⟨G,0,none⟩) (n+1) (n+1),.slice (some ⟨x,0,none⟩) es.length es.length,.slice (some ⟨y,0,none⟩) (n+1) (n+1)] T)
 refine ⟨by go_simp,⟨a,c,by go_simp,hc.go hb,fun z hz he=>⟨ha z hz,?_⟩⟩,fun b=>?_,⟨hlo,Nat.lt_succ_self _⟩⟩
 rotate_left
 ·cases b with
  |false=>exact ⟨E,G,xs,by go_simp,by go_simp,(h.kept fun k _ hk=>hb.block k hk).mono (Nat.le_succ _)⟩
  |true=>exact ⟨x,y,ys,by go_simp,by go_simp,(h'.kept fun k _ hk=>hb.block k hk).mono (Nat.le_succ _)⟩
 obtain ⟨e0,r,rfl⟩:=List.exists_cons_of_ne_nil he
 obtain ⟨b,o,e,h1,_⟩:=hc.edge (i:=0) (by simp)
 rw [hz] at e
 cases e
 exact Nat.lt_succ_of_lt (World.block_lt_of_cell? _ _ h1)
def AdjPost (n:Nat) (es:List EdgeD) (w:World) (e:Ending) (w':World):Prop:=
 ∃ab,e=.returned (.tuple #[.pointer (some ⟨ab,0,none⟩),.int .i64 0])∧AdjM w' w.heap.size w'.heap.size ab n es∧Below w.heap.size w w'
set_option maxRecDepth 100000 in
set_option maxHeartbeats 4000000 in
theorem new_any (n:Nat) (es:List EdgeD) (ao:Option Addr) (cap:Nat) (w:World) (hg:rightG ⟨(n:Int),es⟩=0) (hn:n≤50000) (hel:es.length≤50000) (hc:Cel w ao (flat es)) (hes:∀e∈es,nodeN n e.f∧nodeN n e.t):
  Calls Try.prog 40 #[gV n ao es.length cap] w (AdjPost n es w):=by
 obtain ⟨W,hW⟩:∃W,W=w.alloc (Obj.cells #[.int .i64 (n:Int),.slice ao es.length cap] 24):=⟨_,rfl⟩
 have hbw:Below w.heap.size w W:=by rw [hW];exact Below.of_al _ _
 have c0:W.cell? ⟨w.heap.size,0,none⟩=some (.int .i64 (n:Int)):=by rw [hW];go_simp
 have c1:W.cell? ⟨w.heap.size,1,none⟩=some (.slice ao es.length cap):=by rw [hW];go_simp
 have z0:W.frozen? ⟨w.heap.size,0,none⟩=false:=by rw [hW];go_simp
 have z1:W.frozen? ⟨w.heap.size,1,none⟩=false:=by rw [hW];go_simp
 have hlt:w.heap.size<W.heap.size:=by rw [hW];simp
 have HGR:=Lib.hid (show Calls Try.prog 29 #[gV n ao es.length cap] W (fun e w'=>e=.returned (.int .i64 (rightG ⟨(n:Int),es⟩))∧Below W.heap.size W w') from gRight_any ⟨(n:Int),es⟩ ao cap W (by show es.length≤_;omega) (hc.go hbw))
 rw [hg] at HGR
 have HCG:=Lib.hid (fun W' (hz:Below W.heap.size W W')=>cloneG_any (n:Int) es ao cap W' ((hc.go hbw).go hz) (by omega))
 have HLF:=Lib.hid (fun a c W' (ha:Cel W' a (flat es))=>laid_any 59 (fun e=>e.f) (enters_of Try.func59 (by kernel_rfl) rfl) from_key n es a c W' hn hel ha (fun e he=>(hes e he).1))
 have HLT:=Lib.hid (fun a c W' (ha:Cel W' a (flat es))=>laid_any 60 (fun e=>e.t) (enters_of Try.func60 (by kernel_rfl) rfl) to_key n es a c W' hn hel ha (fun e he=>(hes e he).2))
 have HW:=Lib.hid hW
 have HB:=Lib.hid hbw
 have HLT0:=Lib.hid hlt
 unfold CGPost at HCG
 unfold LaidPost at HLF HLT
 unfold gV at*
 clear hW hbw hc hes hg hlt
 go_enter Try.func40,Try.ntmps40
 go_upto_region 1 with (fail)
 rw [←HW.out]
 go_upto_region 3 with (go_at_call 29;refine HGR.out.mono ?_;rintro e w1 ⟨rfl,hb1⟩;(have HB1:=Lib.hid hb1);(have d0:=cell_later hb1 c0);(have d1:=cell_later hb1 c1);(have y0:=(hb1.frozen (p:=⟨w.heap.size,0,none⟩) HLT0.out).trans z0);(have y1:=(hb1.frozen (p:=⟨w.heap.size,1,none⟩) HLT0.out).trans z1);clear hb1)
 go_upto_region 4 with (go_at_call 57;refine (HCG.out _ HB1.out).mono ?_;rintro e w2 ⟨a2,k2,rfl,h1,h2,h3⟩;(have HB2:=Lib.hid (HB1.out.st h2));(have HC2:=Lib.hid h1);(have HA2:=Lib.hid (show ∀x,a2=some x→w1.heap.size≤x.block from fun x hx=>h3 x.block (by rw [hx];rfl)));(have x0:=cell_later h2 d0);(have x1:=cell_later h2 d1);(have u0:=(h2.frozen (p:=⟨w.heap.size,0,none⟩) (Nat.lt_of_lt_of_le HLT0.out HB1.out.size)).trans y0);(have u1:=(h2.frozen (p:=⟨w.heap.size,1,none⟩) (Nat.lt_of_lt_of_le HLT0.out HB1.out.size)).trans y1);clear h1 h2 h3)
 obtain ⟨W3,hW3⟩:∃W3,W3=(w2.setCell ⟨w.heap.size,0,none⟩ (.int .i64 (n:Int))).setCell ⟨w.heap.size,1,none⟩ (.slice a2 es.length k2):=⟨_,rfl⟩
 rw [←hW3]
 have p0:W3.cell? ⟨w.heap.size,0,none⟩=some (.int .i64 (n:Int)):=by
  rw [hW3,World.cell?_setCell_other _ _ _ _ (by simp)]
  exact World.cell?_setCell_same _ _ _ x0
 have p1:W3.cell? ⟨w.heap.size,1,none⟩=some (.slice a2 es.length k2):=by
  rw [hW3]
  exact World.cell?_setCell_same (u:=.slice ao es.length cap) _ _ _ (by rw [World.cell?_setCell_other _ _ _ _ (by simp)];exact x1)
 have hzw:w.heap.size<w1.heap.size:=Nat.lt_of_lt_of_le HLT0.out HB1.out.size
 have HC3:=Lib.hid (show Cel W3 a2 (flat es) from fun i u hu=>by
  obtain ⟨b,o,e,h9⟩:=HC2.out i u hu
  have hb9:=HA2.out _ e
  simp only at hb9
  refine ⟨b,o,e,?_⟩
  rw [hW3,World.cell?_setCell_far _ _ _ _ (by simp;omega),World.cell?_setCell_far _ _ _ _ (by simp;omega)]
  exact h9)
 have HB3:=Lib.hid (show Below w.heap.size w W3 by rw [hW3];exact ((HB.out.st HB2.out).setCell (Nat.le_refl _) _).setCell (Nat.le_refl _) _)
 have HA3:=Lib.hid (show ∀x,a2=some x→w.heap.size≤x.block from fun x hx=>by have:=HA2.out x hx;omega)
 clear hW3 x0 x1 u0 u1 y0 y1 d0 d1 c0 c1 z0 z1 hzw
 refine wp_region_grows_g 15 rfl (anR w.heap.size a2 k2 n w.heap.size es) (by kernel_rfl) (by kernel_rfl) anR_go ?hop ?hend
 case hop=>
  refine ⟨?_,?_,?_,?_,?_,?_,?_,?_,?_,?_,?_,?_,?_,?_,?_,trivial⟩
  ·intro act w' hbe hd ho K hK
   have q0:act.tmps.getD 1 undef=.pointer (some ⟨w.heap.size,0,none⟩):=ho 1 (by kernel_rfl)
   have f0:=cell_later hbe p0
   have f1:=cell_later hbe p1
   refine .inl ⟨goes_free rfl,?_⟩
   simp [Oper.wp,execOp,Oper.upon,go_sem,Act.eval,q0,f0,f1]
   exact hK _ w' (Below.refl _ _) rfl
  ·intro act w' hbe hd ho K hK
   have q0:act.tmps.getD 1 undef=.pointer (some ⟨w.heap.size,0,none⟩):=ho 1 (by kernel_rfl)
   refine .inl ⟨goes_free rfl,?_⟩
   simp [Oper.wp,execOp,Oper.upon,go_sem,Act.eval,q0]
   exact hK _ w' (Below.refl _ _) rfl
  ·intro act w' hbe hd ho K hK
   have q0:act.tmps.getD 10 undef=.pointer (some ⟨w.heap.size,0,none⟩):=hd 1 (by rfl)
   have f0:=cell_later hbe p0
   refine .inl ⟨goes_free rfl,?_⟩
   simp [Oper.wp,execOp,Oper.upon,go_sem,Act.eval,q0,f0]
   exact hK _ w' (Below.refl _ _) rfl
  ·intro act w' hbe hd ho K hK
   have q0:act.tmps.getD 1 undef=.pointer (some ⟨w.heap.size,0,none⟩):=ho 1 (by kernel_rfl)
   refine .inl ⟨goes_free rfl,?_⟩
   simp [Oper.wp,execOp,Oper.upon,go_sem,Act.eval,q0]
   exact hK _ w' (Below.refl _ _) rfl
  ·intro act w' hbe hd ho K hK
   have q0:act.tmps.getD 12 undef=.pointer (some ⟨w.heap.size,1,none⟩):=hd 3 (by rfl)
   have f1:=cell_later hbe p1
   refine .inl ⟨goes_free rfl,?_⟩
   simp [Oper.wp,execOp,Oper.upon,go_sem,Act.eval,q0,f1]
   exact hK _ w' (Below.refl _ _) rfl
  ·intro act w' hbe hd ho K hK
   have q0:act.tmps.getD 11 undef=.int .i64 (n:Int):=hd 2 (by rfl)
   have q1:act.tmps.getD 13 undef=.slice a2 es.length k2:=hd 4 (by rfl)
   refine .inl ⟨goes_free rfl,?_⟩
   simp [Oper.wp,execOp,Oper.upon,go_sem,Act.eval,q0,q1]
   refine (HLF.out a2 k2 w' (HC3.out.go hbe)).mono ?_
   rintro e w6 ⟨E,G,xs,rfl,h1,h2,h3,h4,h5,h6⟩
   have hz:=(HB3.out.st hbe).size
   exact hK _ w6 h4 ⟨E,G,xs,rfl,h1,h2,h3,⟨by omega,h5.2⟩,⟨by omega,h6.2⟩⟩
  ·intro act w' hbe hd ho K hK
   have q0:act.tmps.getD 1 undef=.pointer (some ⟨w.heap.size,0,none⟩):=ho 1 (by kernel_rfl)
   refine .inl ⟨goes_free rfl,?_⟩
   simp [Oper.wp,execOp,Oper.upon,go_sem,Act.eval,q0]
   exact hK _ w' (Below.refl _ _) rfl
  ·intro act w' hbe hd ho K hK
   have q0:act.tmps.getD 15 undef=.pointer (some ⟨w.heap.size,0,none⟩):=hd 6 (by rfl)
   have f0:=cell_later hbe p0
   refine .inl ⟨goes_free rfl,?_⟩
   simp [Oper.wp,execOp,Oper.upon,go_sem,Act.eval,q0,f0]
   exact hK _ w' (Below.refl _ _) rfl
  ·intro act w' hbe hd ho K hK
   have q0:act.tmps.getD 1 undef=.pointer (some ⟨w.heap.size,0,none⟩):=ho 1 (by kernel_rfl)
   refine .inl ⟨goes_free rfl,?_⟩
   simp [Oper.wp,execOp,Oper.upon,go_sem,Act.eval,q0]
   exact hK _ w' (Below.refl _ _) rfl
  ·intro act w' hbe hd ho K hK
   have q0:act.tmps.getD 17 undef=.pointer (some ⟨w.heap.size,1,none⟩):=hd 8 (by rfl)
   have f1:=cell_later hbe p1
   refine .inl ⟨goes_free rfl,?_⟩
   simp [Oper.wp,execOp,Oper.upon,go_sem,Act.eval,q0,f1]
   exact hK _ w' (Below.refl _ _) rfl
  ·intro act w' hbe hd ho K hK
   have q0:act.tmps.getD 16 undef=.int .i64 (n:Int):=hd 7 (by rfl)
   have q1:act.tmps.getD 18 undef=.slice a2 es.length k2:=hd 9 (by rfl)
   refine .inl ⟨goes_free rfl,?_⟩
   simp [Oper.wp,execOp,Oper.upon,go_sem,Act.eval,q0,q1]
   refine (HLT.out a2 k2 w' (HC3.out.go hbe)).mono ?_
   rintro e w6 ⟨E,G,xs,rfl,h1,h2,h3,h4,h5,h6⟩
   have hz:=(HB3.out.st hbe).size
   exact hK _ w6 h4 ⟨E,G,xs,rfl,h1,h2,h3,⟨by omega,h5.2⟩,⟨by omega,h6.2⟩⟩
  ·intro act w' hbe hd ho K hK
   have q0:act.tmps.getD 9 undef=.agg #[.int .i64 (n:Int),.slice a2 es.length k2]:=hd 0 (by rfl)
   obtain ⟨E,G,xs,e5,h5⟩:anR w.heap.size a2 k2 n w.heap.size es 5 (act.tmps.getD 14 undef) w':=hd 5 (by rfl)
   obtain ⟨x,y,ys,e10,h10⟩:anR w.heap.size a2 k2 n w.heap.size es 10 (act.tmps.getD 19 undef) w':=hd 10 (by rfl)
   have z0:=(Array.getD_eq_getD_getElem? (xs:=act.tmps) (i:=9) (d:=undef)).symm.trans q0
   have z1:=(Array.getD_eq_getD_getElem? (xs:=act.tmps) (i:=14) (d:=undef)).symm.trans e5
   have z2:=(Array.getD_eq_getD_getElem? (xs:=act.tmps) (i:=19) (d:=undef)).symm.trans e10
   refine .inl ⟨goes_free rfl,?_⟩
   simp [Oper.wp,execOp,Oper.upon,go_sem,Act.eval,q0,z0,z1,z2,e5,e10]
   exact hK _ w' (Below.refl _ _) ⟨E,G,xs,x,y,ys,rfl,h5,h10⟩
  ·intro act w' hbe hd ho K hK
   obtain ⟨E,G,xs,x,y,ys,e11,h5,h6⟩:anR w.heap.size a2 k2 n w.heap.size es 11 (act.tmps.getD 20 undef) w':=hd 11 (by rfl)
   refine .inl ⟨goes_free rfl,?_⟩
   simp [Oper.wp,execOp,Oper.upon,go_sem,Act.eval,e11]
   exact hK _ _ (Below.of_al _ _) ⟨_,rfl,by rw [World.size_alloc];exact adj_new (m':=0) h5 h6 (HC3.out.go hbe) HA3.out ((HB3.out.st hbe).size) _⟩
  ·intro act w' hbe hd ho K hK
   obtain ⟨ab,e12,h5⟩:anR w.heap.size a2 k2 n w.heap.size es 12 (act.tmps.getD 21 undef) w':=hd 12 (by rfl)
   refine .inl ⟨goes_free rfl,?_⟩
   simp [Oper.wp,execOp,Oper.upon,go_sem,Act.eval,e12]
   exact hK _ w' (Below.refl _ _) ⟨ab,rfl,h5⟩
  ·intro act w' hbe hd ho K hK
   refine .inl ⟨goes_free rfl,?_⟩
   simp [Oper.wp,execOp,Oper.upon,go_sem,Act.eval]
   exact hK _ w' (Below.refl _ _) rfl
 intro vs w5 hb5 hR
 obtain ⟨ab,e13,h13⟩:=hR 13 (by decide)
 have e14:vs 14=.int .i64 0:=hR 14 (by decide)
 simp only [puts,dstAt,List.getElem?_cons_zero,List.getElem?_cons_succ,Option.bind_some,Option.getD_some,Act.put,List.length_cons,List.length_nil,Nat.reduceAdd,List.setIfInBounds_toArray,List.set_cons_zero,List.set_cons_succ,e13,e14]
 have HF:=Lib.hid (And.intro h13 (HB3.out.st hb5))
 clear hR e13 e14 h13 hb5
 generalize vs 0=y0
 generalize vs 1=y1
 generalize vs 2=y2
 generalize vs 3=y3
 generalize vs 4=y4
 generalize vs 5=y5
 generalize vs 6=y6
 generalize vs 7=y7
 generalize vs 8=y8
 generalize vs 9=y9
 generalize vs 10=y10
 generalize vs 11=y11
 generalize vs 12=y12
 go_wp2
 refine bodyPost_ret (v:=.tuple #[.pointer (some ⟨ab,0,none⟩),.int .i64 0]) (by simp [results,Try.results40,go_sem];try rfl) rfl ?_
 exact ⟨ab,rfl,HF.out.1,HF.out.2⟩
end Go.Proofs.Yteaaapdjplbljaa.Ad
