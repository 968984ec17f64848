/- Walk of package simple: Each, and its function. -/
import Derived.Test.YteaaapdjplbljaaProg
import Derived.Test.YteaaapdjplbljaaVa29
import Derived.Deep.Cut
set_option linter.unusedVariables false
set_option linter.unusedSimpArgs false
set_option linter.unnecessarySimpa false
namespace Go.Proofs.Yteaaapdjplbljaa.Sm
open Go Go.Proofs Go.RowKit Go.Shelf Go.Proofs.Yteaaapdjplbljaa Go.Proofs.Yteaaapdjplbljaa.Ad Go.Proofs.Yteaaapdjplbljaa.Hp Go.Proofs.Yteaaapdjplbljaa.Ch
theorem yield_wideS {m:Nat} (m':Nat) {P:Program} {l:Nat} {args:Array Value} {W:World} {R:Ending→World→Prop} (h:YieldAt Fence.wide m P l args W R):YieldAt Fence.wide m' P l args W R:=by
 obtain ⟨a,b,c,d,h1,h2⟩:=h
 exact ⟨a,b,c,d,h1,h2.1,fun x cs _=>h2.2 x cs (room_wide _)⟩
def KpS (B:Nat) (ao:Option Addr) (es:List EdgeD) (k:Nat):Prop:=(B≤k∧k<B+3)∨(es≠[]∧∃x,ao=some x∧k=x.block)
theorem cel_keepS {w W:World} {ao:Option Addr} {es:List EdgeD} {B:Nat} (h:Cel w ao (flat es)) (hk:KeepX (KpS B ao es) w W):Cel W ao (flat es):=by
 intro i u hu
 obtain ⟨b,o,e,h1⟩:=h i u hu
 refine ⟨b,o,e,(World.cell?_of_block (w:=w) (hk.2 b (.inr ⟨fun e9=>by rw [e9] at hu;simp [flat] at hu,_,e,rfl⟩))).trans h1⟩
def allS (n:Nat) (es:List EdgeD) (s t:Int):List RtD:=simF es t n s [s] [] 0
theorem whyS_ok {g:GD} {s t:Int} (h:whyS g s t=0):rightG g=0∧nodeB g.n s=true∧nodeB g.n t=true:=by
 unfold whyS at h
 by_cases h1:rightG g≠0
 ·rw [if_pos h1] at h;cases h
 ·rw [if_neg h1] at h
  by_cases h2:nodeB g.n s=false∨nodeB g.n t=false
  ·rw [if_pos h2] at h;cases h
  ·refine ⟨Decidable.not_not.1 h1,?_,?_⟩
   ·cases h3:nodeB g.n s with
    |true=>rfl
    |false=>exact absurd (.inl h3) h2
   ·cases h3:nodeB g.n t with
    |true=>rfl
    |false=>exact absurd (.inr h3) h2
theorem run_mk_S {T E:TypeId} {z:Value} {bytes:Nat} (hT:Try.prog.underlying T=some (.slice E)) (hE:Elem Try.prog E z 1 bytes) (hz1:z.cells=#[z]) (n:Nat) (hn:n≤60000) (hb:bytes≤64) (W:World):
  (Instr.makeSlice T (.int .i64 (n:Int)) (.int .i64 (n:Int))).run Try.prog W=.ok (.slice (some ⟨W.heap.size,0,none⟩) n n) (W.alloc (.cells (madeCells #[z] n) E)):=by
 obtain ⟨i,hi,hz,hsz,hby⟩:=info_parts hE.1
 have hbn:(bytes:Int)*(n:Int)≤64*60000:=by
  rw [←Int.natCast_mul]
  exact Int.ofNat_le.2 (Nat.mul_le_mul hb hn)
 have hr:=run_make (P:=Try.prog) W T E i z hT hi hz .i64 .i64 n n (by omega) (Int.le_refl _) (by rw [hby];omega) (by omega)
 simp only [Int.toNat_natCast,hsz,Nat.mul_one,hz1] at hr
 exact hr
theorem own_mk_S (E:TypeId) (z:Value) (n:Nat) (hn:n≤60000) (W:World):(W.alloc (.cells (madeCells #[z] n) E)).ownsRow 0 E 1 (.slice (some ⟨W.heap.size,0,none⟩) n n) n (List.replicate n z):=by
 have:=World.ownsRow_lit (base:=0) (e:=E) (size:=1) W (madeCells #[z] n) n (Nat.zero_le _) (by unfold maxLen;omega) (by rw [size_madeCells];simp)
 rw [toList_madeCells_one] at this
 exact this
theorem elem_bool:Elem Try.prog 4 (.bool false) 1 1:=⟨by kernel_rfl,rfl,by decide⟩
theorem right_nodes {n:Nat} {es:List EdgeD} (h:rightG ⟨(n:Int),es⟩=0) {e:EdgeD} (he:e∈es):nodeN n e.f∧nodeN n e.t:=by
 have h1:es.any (looseB (n:Int))=false:=by
  cases h2:es.any (looseB (n:Int)) with
  |false=>rfl
  |true=>
   obtain ⟨b1,b2,b3⟩:=rightG_bounds h
   have:=rightG_3 (g:=⟨(n:Int),es⟩) (by simp only at b1 ⊢;omega) (by simp only at b2 ⊢;omega) (by simp only at b3 ⊢;omega) h2
   rw [h] at this
   cases this
 have h3:=List.any_eq_false.1 h1 e he
 unfold looseB nodeB at h3
 simp at h3
 unfold nodeN
 omega
theorem kpS_lt {W:World} {ao:Option Addr} {es:List EdgeD} {B:Nat} (hc:Cel W ao (flat es)) (hB:B+3≤W.heap.size):∀k,KpS B ao es k→k<W.heap.size:=fun k hk=>by
 rcases hk with h|⟨hne,x,hx,rfl⟩
 ·omega
 ·obtain ⟨e,r,rfl⟩:=List.exists_cons_of_ne_nil hne
  obtain ⟨b',o',e',c5⟩:=hc 0 _ rfl
  rw [hx] at e'
  cases e'
  exact World.block_lt_of_cell? _ _ c5
theorem sm_ans {K:SmK} {Kp:Nat→Prop} {T:List RtD} {J Jx:List RtC→(Nat→Prop)→World→Prop} {m0 row:List Int} {rv:Value} {xs:List RtD} {Pr:Nat→Prop} {W W':World} {e:Ending} (h:SmPost K Kp T J Jx m0 row rv [] xs Pr W e W'):
  ∃b:Bool,e=.returned (.bool b)∧∃Pr,(∃parts,parts.map (·.r)=xs∧J parts Pr W')∨∃pre,(pre.map (·.r)) <+:T∧Jx pre Pr W':=by
 obtain ⟨Pr',_,_,_,_,⟨rfl,ys,h1,h2⟩|⟨rfl,pre',h1,h2⟩⟩:=h
 ·exact ⟨true,rfl,Pr',.inl ⟨ys,h1,h2⟩⟩
 ·exact ⟨false,rfl,Pr',.inr ⟨pre',h1,h2⟩⟩
theorem each_anyS (n:Nat) (es:List EdgeD) (ao:Option Addr) (cap:Nat) (s t:Int) (w:World):
  Calls Try.prog 23 #[.agg #[.int .i64 (n:Int),.slice ao es.length cap],.int .i64 s,.int .i64 t] w fun e w'=>
   e=.returned (.func (.func 39) #[] #[.pointer (some ⟨w.heap.size,0,none⟩),.pointer (some ⟨w.heap.size+1,0,none⟩),.pointer (some ⟨w.heap.size+2,0,none⟩)])∧Below w.heap.size w w'∧w'.heap.size=w.heap.size+3∧
   w'.cell? ⟨w.heap.size,0,none⟩=some (.int .i64 (n:Int))∧w'.cell? ⟨w.heap.size,1,none⟩=some (.slice ao es.length cap)∧w'.cell? ⟨w.heap.size+1,0,none⟩=some (.int .i64 s)∧w'.cell? ⟨w.heap.size+2,0,none⟩=some (.int .i64 t):=by
 have hmf:∀(fn:Fn) (first cap:Array Value) (w:World),(Instr.makeFunc fn first cap).run Try.prog w=.ok (.func fn first cap) w:=fun _ _ _ _=>rfl
 go_enter Try.func23,Try.ntmps23
 go_wp2
 go_ret
 exact ⟨rfl,((Below.of_al _ _).al _).al _,by simp,by go_simp,by go_simp,by go_simp,by go_simp⟩
set_option maxRecDepth 100000 in
set_option maxHeartbeats 8000000 in
theorem each_seq (m n:Nat) (es:List EdgeD) (ao:Option Addr) (cap:Nat) (s t:Int) (B:Nat) (w:World) (hw:whyS ⟨(n:Int),es⟩ s t=0) (hc:Cel w ao (flat es)) (hB:B+3≤w.heap.size)
  (c0:w.cell? ⟨B,0,none⟩=some (.int .i64 (n:Int))) (c1:w.cell? ⟨B,1,none⟩=some (.slice ao es.length cap)) (c2:w.cell? ⟨B+1,0,none⟩=some (.int .i64 s)) (c3:w.cell? ⟨B+2,0,none⟩=some (.int .i64 t)):
  SeqE Fence.wide m Try.prog 39 #[.pointer (some ⟨B,0,none⟩),.pointer (some ⟨B+1,0,none⟩),.pointer (some ⟨B+2,0,none⟩)] encSR bkR (fun pre=>pre.map (·.r) <+:allS n es s t) (fun parts=>parts.map (·.r)=allS n es s t) AtR (KpS B ao es) w:=by
 intro l J Jx W hk hJ hJx hY hJ0
 obtain ⟨hg,hs,ht⟩:=whyS_ok hw
 obtain ⟨hn1,hn2,hel⟩:=rightG_bounds hg
 simp only at hn1 hn2 hel hs ht
 have hkB:∀{j k:Nat} {u:Value},j<3→w.cell? ⟨B+j,k,none⟩=some u→W.cell? ⟨B+j,k,none⟩=some u:=fun hj hcc=>by
  rw [World.cell?_of_block (w:=w) (hk.2 (B+_) (.inl ⟨Nat.le_add_right _ _,Nat.add_lt_add_left hj _⟩))]
  exact hcc
 have d0:W.cell? ⟨B,0,none⟩=some (.int .i64 (n:Int)):=hkB (j:=0) (by omega) c0
 have d1:W.cell? ⟨B,1,none⟩=some (.slice ao es.length cap):=hkB (j:=0) (by omega) c1
 have d2:=hkB (j:=1) (by omega) c2
 have d3:=hkB (j:=2) (by omega) c3
 have hcW:Cel W ao (flat es):=cel_keepS hc hk
 have hzk:=hk.1
 have hes:∀e∈es,nodeN n e.f∧nodeN n e.t∧1≤e.w∧e.w≤4294967296:=fun e he=>by
  have h1:=right_nodes hg he
  have h2:=right_weight hg he
  exact ⟨h1.1,h1.2,h2.1,h2.2⟩
 have HCK:=Lib.hid (fun W' (hz:Below W.heap.size W W')=>check_any ⟨(n:Int),es⟩ ao cap s t W' (by show es.length≤_;omega) (hcW.go hz))
 rw [hw] at HCK
 simp only at HCK
 have HNW:=Lib.hid (fun W' (hz:Below W.heap.size W W')=>Ad.new_any n es ao cap W' hg (by omega) (by omega) (hcW.go hz) (fun e he=>⟨(hes e he).1,(hes e he).2.1⟩))
 unfold AdjPost gV at HNW
 have hmf:∀(fn:Fn) (first cap:Array Value) (w:World),(Instr.makeFunc fn first cap).run Try.prog w=.ok (.func fn first cap) w:=fun _ _ _ _=>rfl
 refine callsIn_wide.2 ?_
 have HJ:=Lib.hid hJ
 have HJX:=Lib.hid hJx
 have HY:=Lib.hid hY
 have HJ0:=Lib.hid hJ0
 have HES:=Lib.hid hes
 clear hk hJ hJx hY hJ0 hes hc c0 c1 c2 c3 hkB
 obtain ⟨V,hV⟩:∃V,V=W.alloc (Obj.cells #[.func (.yield l) #[] #[]] 68):=⟨_,rfl⟩
 have hbV:Below W.heap.size W V:=by rw [hV];exact Below.of_al _ _
 have v0:V.cell? ⟨W.heap.size,0,none⟩=some (.func (.yield l) #[] #[]):=by rw [hV];go_simp
 have hzV:V.heap.size=W.heap.size+1:=by rw [hV];simp
 have e0:=cell_later hbV d0
 have e1:=cell_later hbV d1
 have e2:=cell_later hbV d2
 have e3:=cell_later hbV d3
 have HBV:=Lib.hid hbV
 have HV:=Lib.hid hV
 have HZV:=Lib.hid hzV
 have hmk:=run_mk_S (T:=72) Try.underlying72 elem_bool rfl n (by omega) (by decide)
 clear hV hbV hzV
 go_enter Try.func39,Try.ntmps39
 go_upto_region 1 with (fail)
 rw [←HV.out]
 go_upto_region 2 with (go_at_call 15;refine (HCK.out _ HBV.out).mono ?_;rintro e w2 ⟨rfl,hb⟩;(have HB2:=Lib.hid (HBV.out.st hb));(have f0:=cell_later hb e0);(have f1:=cell_later hb e1);(have f2:=cell_later hb e2);(have f3:=cell_later hb e3);(have f4:=cell_later hb v0);(have HZ2:=Lib.hid hb.size);clear hb)
 clear e0 e1 e2 e3 v0
 go_upto_region 3 with (go_at_call 40;refine (HNW.out _ HB2.out).mono ?_;rintro e w3 ⟨ab,rfl,had,hb⟩;(have HAD:=Lib.hid had);(have HB3:=Lib.hid (HB2.out.st hb));(have g0:=cell_later hb f0);(have g1:=cell_later hb f1);(have g2:=cell_later hb f2);(have g3:=cell_later hb f3);(have g4:=cell_later hb f4);(have HZ3:=Lib.hid hb.size);clear hb had)
 obtain ⟨W4,hW4⟩:∃W4,W4=w3.alloc (Obj.cells #[.pointer (some ⟨ab,0,none⟩)] 69):=⟨_,rfl⟩
 rw [←hW4]
 have hb4:Below w3.heap.size w3 W4:=by rw [hW4];exact Below.of_al _ _
 have h0:=cell_later hb4 g0
 have h1:=cell_later hb4 g1
 have h2:=cell_later hb4 g2
 have HW4:=Lib.hid hW4
 have hz4:W4.heap.size=w3.heap.size+1:=by rw [hW4];simp
 have h4:=cell_later hb4 g4
 have h3:=cell_later hb4 g3
 have h5:W4.cell? ⟨w3.heap.size,0,none⟩=some (.pointer (some ⟨ab,0,none⟩)):=by rw [hW4];go_simp
 have HZ4:=Lib.hid hz4
 clear hW4 hz4
 go_upto_region 6 with (fail)
 obtain ⟨W9,hW9⟩:∃W9,W9=((W4.alloc (Obj.cells (madeCells #[.bool false] n) 4)).alloc (Obj.cells #[.slice (some ⟨W4.heap.size,0,none⟩) n n] 72)).alloc (Obj.cells #[.func (.func 41) #[] #[.pointer (some ⟨B+2,0,none⟩),.pointer (some ⟨W.heap.size,0,none⟩),.pointer (some ⟨W4.heap.size+1,0,none⟩),.pointer (some ⟨w3.heap.size,0,none⟩),.pointer (some ⟨W4.heap.size+1+1,0,none⟩)]] 73):=⟨_,rfl⟩
 rw [←hW9]
 have hb9:Below W4.heap.size W4 W9:=by rw [hW9];exact ((Below.of_al _ _).al _).al _
 have hz9:W9.heap.size=W4.heap.size+3:=by rw [hW9];simp
 have HB9:=Lib.hid (HB3.out.st (hb4.st hb9))
 obtain ⟨sn,rfl⟩:∃q:Nat,s=(q:Int):=⟨s.toNat,by unfold nodeB at hs;simp at hs;omega⟩
 have hsn:sn<n:=by unfold nodeB at hs;simp at hs;omega
 have hz1:=HZV.out
 have hz2:=HZ2.out
 have hz3:=HZ3.out
 have hz4:=HZ4.out
 have hT9:([]:List RtC).map (·.r)++simF es t n (sn:Int) ([]++[(sn:Int)]) [] 0 <+:allS n es (sn:Int) t:=by
  rw [List.map_nil,List.nil_append,List.nil_append]
  exact List.prefix_refl _
 have cc1:W9.cell? ⟨W4.heap.size+1,0,none⟩=some (.slice (some ⟨W4.heap.size,0,none⟩) n n):=by rw [hW9];go_simp
 have cc2:W9.cell? ⟨W4.heap.size+1+1,0,none⟩=some (.func (.func 41) #[] #[.pointer (some ⟨B+2,0,none⟩),.pointer (some ⟨W.heap.size,0,none⟩),.pointer (some ⟨W4.heap.size+1,0,none⟩),.pointer (some ⟨w3.heap.size,0,none⟩),.pointer (some ⟨W4.heap.size+1+1,0,none⟩)]):=by rw [hW9];go_simp
 have hkp9:=kpS_lt hcW (show B+3≤W.heap.size by omega)
 have hgr:=grow_any ⟨n,es,t,B+2,W.heap.size,W4.heap.size+1,w3.heap.size,W4.heap.size+1+1,W4.heap.size,ab,w2.heap.size,w3.heap.size,l,W.heap.size⟩ (KpS B ao es) (allS n es (sn:Int) t) J Jx (.inl ⟨by simp only;omega,by simp only;omega⟩)
  hkp9 HJ.out HJX.out
  (fun m' pre Pr x W1 hj hok hat hbk hsz=>yield_wideS m' (HY.out pre Pr x W1 hj hok hat hbk hsz))
  n sn [] [] (.slice none 0 0) 0 [] (fun k=>k<W.heap.size) W9 (by simp) hsn List.nodup_nil (List.not_mem_nil) (fun x hx=>nomatch hx) rfl ⟨Int.le_refl _,by simp⟩ hT9
  ?con ?st (World.ownsRow_nil _ _ _ _) (fun k hk=>nomatch hk) (HJ.out _ _ _ _ HJ0.out (.of_below HB9.out))
 case con=>
  refine ⟨cell_later hb9 h3,cell_later hb9 h4,cc1,cell_later hb9 h5,cc2,HAD.out.go (hb4.st hb9) (Nat.le_refl _),?_,?_,?_,?_,?_,?_,?_,⟨by simp only;omega,by simp only;omega⟩,HES.out⟩
  ·rintro k (h|h|h|h|h|h)<;>simp only at h<;>omega
  ·rintro k (h|h|h|h|h|h) hne<;>simp only at h hne<;>omega
  ·simp only;omega
  ·rintro (h|h|h|h|h|h)<;>simp only at h<;>omega
  ·simp only;omega
  ·intro k hk;have hk:k<W.heap.size:=hk;omega
  ·simp only;omega
 case st=>
  have h9:=Ad.owns_rebase (own_mk_S 4 (.bool false) n (by omega) W4) (B:=W.heap.size) (by omega)
  have e9:metL n []=List.replicate n (Value.bool false):=List.eq_replicate_iff.2 ⟨by unfold metL;simp,fun b hb=>by
   unfold metL at hb
   obtain ⟨q,_,rfl⟩:=List.mem_map.1 hb
   simp⟩
  rw [←e9] at h9
  show W9.ownsRow _ _ _ _ _ _
  rw [hW9]
  exact hp_owns_go (hp_owns_go h9 (Below.of_al _ _)) (Below.of_al _ _)
 have HGR:=Lib.hid hgr
 have f8:=cell_later hb9 h2
 clear hgr hW9 hb9 hz9 hz4 hz1
 unfold SmK.caps at HGR
 dsimp only at HGR
 go_wp2_with (go_at_call 41;refine HGR.out.mono ?_;rintro e w10 hp;obtain ⟨bb,rfl,hq⟩:=sm_ans hp;(have HQ:=Lib.hid hq);clear hp hq)
 go_end0
 exact ⟨⟨_,rfl⟩,HQ.out⟩
end Go.Proofs.Yteaaapdjplbljaa.Sm
