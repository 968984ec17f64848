/- Parts; no condition. -/
import Derived.Test.YteaaapdjplbljaaGreatVc10
import Derived.Test.YteaaapdjplbljaaGreatVc11
set_option linter.unusedVariables false
set_option linter.unusedSimpArgs false
set_option linter.unnecessarySimpa false
set_option maxRecDepth 100000
set_option maxHeartbeats 8000000
namespace Go.Proofs.YteaaapdjplbljaaGreat
open Go Go.Proofs Go.RowKit Go.Shelf Hp Ch
theorem An7:Gq Tryz.prog 247 Bk 1 24:=⟨by kernel_rfl,rfl,by decide⟩
theorem Hn {T E:TypeId} {z:Value} {bytes:Nat} (hT:Tryz.prog.underlying T=some (.slice E)) (hE:Gq Tryz.prog E z 1 bytes) (hz1:z.cells=#[z]) (n:Nat) (hn:n<=60000) (hb:bytes<=64) (W:World):
  (Instr.makeSlice T (.int .i64 (n:Int)) (.int .i64 (n:Int))).run Tryz.prog W=.ok (.slice (some ⟨W.heap.size,0,none⟩) n n) (W.alloc (.cells (madeCells #[z] n) E)):=by
 obtain ⟨i,hi,hz,hsz,hby⟩:=info_parts hE.1;have hbn:(bytes:Int)*(n:Int)<=64*60000:=by
  rw [<-Int.natCast_mul];exact Int.ofNat_le.2 (Nat.mul_le_mul hb hn)
 have hr:=run_make (P:=Tryz.prog) W T E i z hT hi hz .i64 .i64 n n (by omega) (Int.le_refl _) (by rw [hby];omega) (by omega);simp only [Bj9,hsz,Nat.mul_one,hz1] at hr;exact hr
theorem Lf (E:TypeId) (z:Value) (n:Nat) (hn:n<=60000) (W:World):(W.alloc (.cells (madeCells #[z] n) E)).ownsRow 0 E 1 (.slice (some ⟨W.heap.size,0,none⟩) n n) n (List.replicate n z):=by
 have:=World.ownsRow_lit (base:=0) (e:=E) (size:=1) W (madeCells #[z] n) n (Bi8 _) (by unfold maxLen;omega) (by rw [size_madeCells];simp);rw [toList_madeCells_one] at this;exact this
theorem Hs {W:World} {g n:Nat} {E:TypeId} {z:Value} (hg:W.heap[g]? =some (.cells (madeCells #[z] n) E)) (hn:n<=60000):W.ownsRow 0 E 1 (.slice (some ⟨g,0,none⟩) n n) n (List.replicate n z):=by
 refine ⟨by simp,.inr ⟨g,n,madeCells #[z] n,rfl,Bi8 _,hg,Bi7 _,by unfold maxLen;omega,by rw [size_madeCells];simp,?_⟩⟩;rw [toList_madeCells_one,Nat.mul_one,List.take_of_length_le (by simp)]
theorem Ve {W:World} {b:Nat} (hb:W.heap[b]? =some (.map #[] 0)):MapP W b 0 (fun _ _=>none):=by
 obtain ⟨D,⟨es,clock,h1,h2,h3,h4⟩,q⟩:=MapP.new W;have h0:=(World.ownsMap_made W Tryz.prog 254 (plainElem (H:=Unit) Tryz.prog 3));have e:(W.alloc (.map #[] 0)).heap[W.heap.size]? =some (.map #[] 0):=by
  show (W.heap.push _)[W.heap.size]? =_
  simp
 rw [e] at h1
 cases h1
 exact ⟨D,⟨#[],0,hb,h2,h3,h4⟩,q⟩
theorem Rf {W:World} {o:Obj} {k:Nat} (h:k=W.heap.size):(W.alloc o).heap[k]? =some o:=by
 subst h
 show (W.heap.push _)[W.heap.size]? =_
 simp
theorem Vk {W:World} {o p:Obj} {k:Nat} (h:W.heap[k]? =some p):(W.alloc o).heap[k]? =some p:=
 (Below.heap_alloc W o k (Bj2.1 h).1).trans h
theorem Zu {W:World} {b:Nat} {xs:Array Value} {T:TypeId} (hb:W.heap[b]? =some (.cells xs T)):PB W b xs.toList:=by
 intro i x hx;refine ⟨?_,frozen_of_row W b i xs T hb⟩;rw [cell_of_row W b i xs T (0,0) hb]
 simpa using hx
abbrev cs0 (cb ob gb mb db n:Nat) (hops settles:Int) (vr:Value):CS:=⟨cb,ob,gb,mb,db,n,n,n,hops,settles,vr,Bk,List.replicate n Bk,Ij n,List.replicate n false,List.replicate n 0,0⟩
theorem Ap2 {W:World} {cb ob gb mb db n:Nat} {hops settles:Int} {vr:Value} {T1:TypeId} (hn:n<=60000) (h1:W.heap[ob]? =some (.cells (madeCells #[Bk] n) 247)) (h2:W.heap[gb]? =some (.cells (madeCells #[.bool false] n) 4))
  (h3:W.heap[db]? =some (.cells (madeCells #[.int .i64 0] n) 3)) (h4:W.heap[mb]? =some (.map #[] 0))
  (h5:W.heap[cb]? =some (.cells #[.slice (some ⟨ob,0,none⟩) n n,.slice (some ⟨gb,0,none⟩) n n,.map (some mb),Bk,.int .i64 hops,.int .i64 settles,vr,.slice (some ⟨db,0,none⟩) n n] T1))
  (hd:cb≠ob/\cb≠gb/\cb≠mb/\cb≠db/\ob≠gb/\ob≠mb/\ob≠db/\gb≠mb/\gb≠db/\mb≠db):CoreW W 0 (cs0 cb ob gb mb db n hops settles vr):=by
 have hN:(cs0 cb ob gb mb db n hops settles vr).n=n:=by show (List.replicate n _).length=n;simp
 have lt:∀{k o},W.heap[k]? =some o->k<W.heap.size:=fun h=>(Bj2.1 h).1;have hnone:∀u,(List.replicate n Bk).getD u Bk=Bk:=fun u=>by
  rw [Bj1,Bm5]
  split<;>rfl
 have hb:∀i k,(cs0 cb ob gb mb db n hops settles vr).blk i=some k->(i=0/\k=cb)\/(i=1/\k=ob)\/(i=2/\k=gb)\/(i=3/\k=mb)\/(i=4/\k=db):=by
  intro i k h
  match i with
  |0=>cases h;exact .inl ⟨rfl,rfl⟩
  |1=>cases h;exact .inr (.inl ⟨rfl,rfl⟩)
  |2=>cases h;exact .inr (.inr (.inl ⟨rfl,rfl⟩))
  |3=>cases h;exact .inr (.inr (.inr (.inl ⟨rfl,rfl⟩)))
  |4=>cases h;exact .inr (.inr (.inr (.inr ⟨rfl,rfl⟩)))
  |5=>cases h
  |i+6=>
   have h2:((List.replicate n Bk).getD i Bk).ownBlock=some k:=h;rw [hnone] at h2
   cases h2
 refine ⟨?_,?_,?_,?_,Ve h4,⟨rfl,.inl ⟨rfl,rfl⟩⟩,?_,?_,?_⟩
 ·have:=Zu h5
  unfold CS.cells;rw [hN];exact this
 ·rw [hN];exact Hs h1 hn
 ·rw [hN]
  have:=Hs h2 hn;rw [show (cs0 cb ob gb mb db n hops settles vr).gone.map Ip=List.replicate n (.bool false) by simp];exact this
 ·rw [hN]
  have:=Hs h3 hn;rw [show (cs0 cb ob gb mb db n hops settles vr).dep.map Aj=List.replicate n (.int .i64 0) by simp];exact this
 ·intro u
  show World.ownsRow _ _ _ 2 ((List.replicate n Bk).getD u Bk) ((List.replicate n []).getD u []).length (Aq ((List.replicate n []).getD u []))
  have e2:(List.replicate n ([]:List (Int×Int))).getD u []=[]:=by
   rw [Bj1,Bm5]
   split<;>rfl
  rw [hnone,e2];exact ⟨rfl,.inl ⟨rfl,rfl⟩⟩
 ·intro i k h
  refine ⟨Bi8 _,?_⟩
  rcases hb i k h with ⟨_,rfl⟩|⟨_,rfl⟩|⟨_,rfl⟩|⟨_,rfl⟩|⟨_,rfl⟩
  ·exact lt h5
  ·exact lt h1
  ·exact lt h2
  ·exact lt h4
  ·exact lt h3
 ·intro i j k hij hi hj
  obtain ⟨d1,d2,d3,d4,d5,d6,d7,d8,d9,d10⟩:=hd
  rcases hb i k hi with ⟨rfl,rfl⟩|⟨rfl,rfl⟩|⟨rfl,rfl⟩|⟨rfl,rfl⟩|⟨rfl,rfl⟩<;>rcases hb j _ hj with ⟨rfl,e⟩|⟨rfl,e⟩|⟨rfl,e⟩|⟨rfl,e⟩|⟨rfl,e⟩<;>omega
structure Fresh (w wr:World) (s:CS):Prop where
 x:∀k,s.X k->w.heap.size<=k
 b:Below w.heap.size w wr
theorem Room.mono {s:CS} {m m':Nat} (h:Room s m) (hm:m<=m'):Room s m':=⟨h.n,Bi9 h.S hm,fun l hl=>Bi9 (h.row l hl) hm,Bi9 h.nb hm⟩
theorem Uk {s s':CS} {x:SC} {m:Nat} (h:Room s m) (hi:InvN s.n s.c) (hc:s'.c=Ed s.c x) (hb:s'.nb<=s.nb+1):Room s' (m+1):=by
 have h0:∀l∈s.c.O.set x.f.toNat ((Cl s.c.O x.f).filter (fun a=>decide (a.1≠x.t))++[(x.t,x.w)]),l.length<=m+1:=by
  intro l hl
  rcases List.mem_or_eq_of_mem_set hl with hl|rfl
  ·exact Nat.le_succ_of_le (h.row l hl)
  ·rw [Bl5]
   have h1:=List.length_filter_le (fun a=>decide (a.1≠x.t)) (Cl s.c.O x.f);have h2:(Cl s.c.O x.f).length<=m:=by
    unfold Cl
    by_cases hh:x.f.toNat<s.c.O.length
    ·rw [Bj1,Bj0 hh]
     exact h.row _ (Bj7 hh)
    ·rw [Bj1,Bm2 (by omega)]
     exact Bi8 _
   simp only [List.length_singleton];omega
 have hnb:=h.nb;have hS:=h.S;have hN:=h.n
 rcases Gc hi x with ⟨e,_⟩|⟨e,_⟩
 ·rw [e] at hc
  refine ⟨by show s'.c.O.length<=_;rw [hc];exact hN,by rw [hc];omega,?_,by omega⟩;rw [hc];exact fun l hl=>Nat.le_succ_of_le (h.row l hl)
 ·rw [e] at hc
  refine ⟨by show s'.c.O.length<=_;rw [hc];show (s.c.O.set _ _).length<=_;rw [Bj6];exact hN,by rw [hc];show (s.c.S++[x]).length<=_;simp;omega,?_,by omega⟩;rw [hc];exact h0
def Ay8 (w:World) (n:Nat) (hops settles:Int) (vr:Value) (v:Value) (w':World):Prop:=
 ∃cb ob gb mb db,v=.pointer (some ⟨cb,0,none⟩)/\CoreW w' 0 (cs0 cb ob gb mb db n hops settles vr)/\Fresh w w' (cs0 cb ob gb mb db n hops settles vr)
theorem Ap1 {w W:World} {cb ob gb mb db n:Nat} {hops settles:Int} {vr:Value} {T1:TypeId} (hn:n<=60000)
  (h5:W.heap[cb]? =some (.cells #[.slice (some ⟨ob,0,none⟩) n n,.slice (some ⟨gb,0,none⟩) n n,.map (some mb),Bk,.int .i64 hops,.int .i64 settles,vr,.slice (some ⟨db,0,none⟩) n n] T1))
  (h1:W.heap[ob]? =some (.cells (madeCells #[Bk] n) 247)) (h2:W.heap[gb]? =some (.cells (madeCells #[.bool false] n) 4))
  (h3:W.heap[db]? =some (.cells (madeCells #[.int .i64 0] n) 3)) (h4:W.heap[mb]? =some (.map #[] 0))
  (hd:(cb≠ob/\cb≠gb/\cb≠mb/\cb≠db/\ob≠gb/\ob≠mb/\ob≠db/\gb≠mb/\gb≠db/\mb≠db)/\w.heap.size<=cb/\w.heap.size<=ob/\w.heap.size<=gb/\w.heap.size<=mb/\w.heap.size<=db) (hb:Below w.heap.size w W):
  Ay8 w n hops settles vr (.pointer (some ⟨cb,0,none⟩)) W.drew:=by
 obtain ⟨hd,g1,g2,g3,g4,g5⟩:=hd;refine ⟨cb,ob,gb,mb,db,rfl,(Ap2 hn h1 h2 h3 h4 h5 hd).go (Below.of_dr W 1),?_,hb.drew⟩;rintro k ⟨i,h⟩
 match i with
 |0=>cases h;exact g1
 |1=>cases h;exact g2
 |2=>cases h;exact g3
 |3=>cases h;exact g4
 |4=>cases h;exact g5
 |5=>cases h
 |i+6=>
  have h2:((List.replicate n Bk).getD i Bk).ownBlock=some k:=h;rw [Bj1,Bm5] at h2
  split at h2<;>cases h2
structure BegS (w:World) (es:List EdgeD) (n cb:Nat) (hops settles:Int) (vr:Value) (k:Nat) (s:CS) (wr:World):Prop where
 core:CoreW wr 0 s
 c:s.c=Kn n es k
 gone:s.gone=List.replicate n false
 dep:s.dep=List.replicate n 0
 opt:s.hops=hops/\s.settles=settles/\s.vr=vr
 cb:s.cb=cb
 room:Room s k
 fr:Fresh w wr s
def Pu (w:World) (es:List EdgeD) (n:Nat) (hops settles:Int) (vr:Value) (e:Ending) (w':World):Prop:=
 ∃cb s,e=.returned (.pointer (some ⟨cb,0,none⟩))/\BegS w es n cb hops settles vr es.length s w'
theorem BegS.n {w wr:World} {es:List EdgeD} {n cb k:Nat} {hops settles:Int} {vr:Value} {s:CS} (h:BegS w es n cb hops settles vr k s wr):s.n=n:=by
 have:=h.core.lens.2.1;rw [h.gone] at this;simp at this;exact this.symm
theorem Fresh.go {w wr w':World} {s s':CS} (h:Fresh w wr s) (ho:OffX s.X wr w') (hx:∀k,s'.X k->s.X k\/wr.heap.size<=k):Fresh w w' s':=by
 have hs:=h.b.size;refine ⟨?_,h.b.trans (ho.below hs h.x)⟩;intro k hk
 rcases hx k hk with h1|h1
 ·exact h.x k h1
 ·omega
theorem BegS.add {w wr wa w':World} {es:List EdgeD} {n cb k:Nat} {hops settles:Int} {vr:Value} {s:CS} {e:Ending} (h:BegS w es n cb hops settles vr k s wr) (hE:EdgesOK n es) (hk:k<es.length) (hb:Below wr.heap.size wr wa) (hp:Kh 0 s (scE k es[k]) wa e w'):
  e=.returned (.tuple #[])/\∃s',BegS w es n cb hops settles vr (k+1) s' w':=by
 obtain ⟨s',rfl,h1,h2,h3,h4,h5,h6,h7,h8,h9,h10,h11⟩:=hp;have hn:=h.n;have hI:=(Bc4 hE k).inv;refine ⟨rfl,s',h1,?_,h3.trans h.gone,h4.trans h.dep,⟨h5.trans h.opt.1,h6.trans h.opt.2.1,h7.trans h.opt.2.2⟩,h8.trans h.cb,?_,?_⟩
 ·rw [h2,h.c]
  show _=(match es[k]? with|some x=>_|none=>_)
  rw [Bj0 hk]
 ·refine Uk h.room ?_ h2 h9
  rw [hn,h.c];exact hI
 ·have hsz:=hb.size
  refine h.fr.go (((OffX.of_below hb)).trans h10) ?_;intro x hx
  rcases h11 x hx with h|h
  ·exact .inl h
  ·exact .inr (by omega)
theorem Ap3 (g:GD) (n:Nat) (ao:Option Addr) (cap:Nat) (hops settles:Int) (vr:Value) (w:World) (hn:g.n=(n:Int)) (hn2:n<=60000) (hc:Cel w ao (Ax g.es)) (hE:EdgesOK n g.es) (hl:g.es.length<=20000):
  Calls Tryz.prog 107 #[.agg #[.int .i64 g.n,.slice ao g.es.length cap],.agg #[.int .i64 hops,.int .i64 settles,vr]] w (Pu w g.es n hops settles vr):=by
 unfold Pu;have m1:=Hn (T:=176) Tryz.underlying176 An7 rfl n hn2 (by omega);have m2:=Hn (T:=177) Tryz.underlying177 Ny rfl n hn2 (by omega);have m3:=Hn (T:=25) Tryz.underlying25 Dc rfl n hn2 (by omega);have hmm:=@run_makeMap Tryz.prog;have HC:=Bi5 hc;have HE:=Bi5 hE;clear hc hE;rw [hn];clear hn
 go_enter Tryz.func107,Tryz.ntmps107
 go_upto_region 1 with (fail)
 go_cut [5] from 8 (fun v w'=>Ay8 ((w.alloc (Obj.cells #[.int .i64 (n:Int),.slice ao g.es.length cap] 24)).alloc (Obj.cells #[.int .i64 hops,.int .i64 settles,vr] 27)) n hops settles vr v w')
 case first=>
  go_region
  all_goals
   go_wp2_with fail
   go_meet
   refine Ap1 hn2 (Rf (by simp)) ?_ ?_ ?_ ?_ ?_ ?_
   ·repeat (first|exact Rf (by simp)|apply Vk)
   ·repeat (first|exact Rf (by simp)|apply Vk)
   ·repeat (first|exact Rf (by simp)|apply Vk)
   ·repeat (first|exact Rf (by simp)|apply Vk)
   ·simp<;>omega
   ·exact (((((Below.refl _ _).alloc (Bi7 _) _).alloc (by simp) _).alloc (by simp<;>omega) _).alloc (by simp<;>omega) _).alloc (by simp<;>omega) _
 case rest=>
  obtain ⟨cb,ob,gb,mb,db,rfl,hcw,hfr⟩:=hcut;obtain ⟨W0,hW0⟩:∃W0,W0=((w.alloc (Obj.cells #[.int .i64 (n:Int),.slice ao g.es.length cap] 24)).alloc (Obj.cells #[.int .i64 hops,.int .i64 settles,vr] 27)):=⟨_,rfl⟩;have b1:W0.cell? ⟨w.heap.size,1,none⟩=some (.slice ao g.es.length cap):=by rw [hW0];go_simp
  have hB0:Below w.heap.size w W0:=by rw [hW0];exact (Below.of_al _ _).al _
  rw [<-hW0] at hfr;have HS:=Bi5 (show BegS W0 g.es n cb hops settles vr 0 _ wc from ⟨hcw,rfl,rfl,rfl,⟨rfl,rfl,rfl⟩,rfl,⟨by show (List.replicate n _).length<=_;simp;omega,Bi7 _,by intro l hl;rw [List.eq_of_mem_replicate (show l∈List.replicate n [] from hl)];exact Bi8 _,Bi7 _⟩,hfr⟩);have HC0:=Bi5 (HC.out.go hB0);have HB0:=Bi5 hB0;have c1:=Bi6 hfr.b b1;clear hW0 hB0 hcw hfr m1 m2 m3 hmm
  go_wp2
  go_loopg [25] g.es.length (fun gm v25 wr=>∃k:Nat,k<=g.es.length/\g.es.length-k<=gm/\v25=.int .i64 k/\Aside (∃s,BegS W0 g.es n cb hops settles vr k s wr))
  case atStart=>exact ⟨0,Bi8 _,by omega,rfl,_,HS.out⟩
  case round=>
   obtain ⟨k,hk,hg,rfl,hs⟩:=hrel;obtain ⟨s,hs⟩:=hs.out;have HBS:=Bi5 hs;clear hs HS c1
   by_cases hlt:k<g.es.length
   ·have hlt2:(k:Int)<(g.es.length:Int):=by omega
    have hk0:(0:Int)<=(k:Int):=by omega
    obtain ⟨eb,eo,rfl,e0,e1,e2⟩:=(HC0.out.go HBS.out.fr.b).edge hlt;have HADD:=Bi5 (fun W (hb:Below wr.heap.size wr W)=>(Ai1 0 s (scE k g.es[k]) W (HBS.out.core.go hb) (by rw [HBS.out.n,HBS.out.c];exact (Bc4 HE.out k).inv) (by rw [HBS.out.n];have:=HE.out.ok g.es[k] (Bj7 hlt);exact ⟨this.1,this.2.1⟩) (HBS.out.room.mono (by omega)):
     Calls Tryz.prog 161 #[.pointer (some ⟨s.cb,0,none⟩),.agg #[.int .i64 g.es[k].f,.int .i64 g.es[k].t,.int .u64 g.es[k].w,.int .i64 (k:Int),.int .i64 (-1),.int .i64 (-1)]] W (Kh 0 s (scE k g.es[k]) W)))
    have HNX:=Bi5 (fun wa w' e (hb:Below wr.heap.size wr wa) hp=>HBS.out.add (wa:=wa) (w':=w') (e:=e) HE.out hlt hb hp);have hcb:=HBS.out.cb;rw [hcb] at HADD;clear hcb;generalize g.es[k]=x at*
    go_wp2_with fail
    refine (HADD.out _ (Below.of_al wr _)).mono ?_;rintro e w' hp;obtain ⟨rfl,hs'⟩:=HNX.out _ _ _ (Below.of_al wr _) hp;have HS':=Bi5 hs';clear hs' hp HADD HNX
    go_wp2
    go_roundg (g.es.length-(k+1))
    case measure=>omega
    case rel=>exact ⟨k+1,by omega,Bi7 _,by go_num,HS'.out⟩
   ·obtain rfl:k=g.es.length:=by omega
    go_wp2
    go_ret
    exact ⟨cb,s,rfl,HBS.out.core,HBS.out.c,HBS.out.gone,HBS.out.dep,HBS.out.opt,HBS.out.cb,HBS.out.room,⟨fun x hx=>Bi9 HB0.out.size (HBS.out.fr.x x hx),HB0.out.trans (HBS.out.fr.b.mono HB0.out.size)⟩⟩
end Go.Proofs.YteaaapdjplbljaaGreat
