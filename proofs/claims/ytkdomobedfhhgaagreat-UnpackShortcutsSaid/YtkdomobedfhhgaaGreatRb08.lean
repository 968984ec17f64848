/-
  Walk: unpack.Route: the memory at the head of its loop.
-/
import Derived.Test.YtkdomobedfhhgaaGreatProg
import Derived.Test.YtkdomobedfhhgaaGreatRb03
import Derived.Test.YtkdomobedfhhgaaGreatRb05
import Derived.Test.YtkdomobedfhhgaaGreatRb07
import Derived.Test.YtkdomobedfhhgaaGreatQb32
set_option linter.unusedVariables false
set_option linter.unusedSimpArgs false
set_option linter.unnecessarySimpa false
namespace Go.Proofs.YtkdomobedfhhgaaGreat.Ro
open Go Go.Proofs Go.RowKit Go.Shelf Go.Proofs.YtkdomobedfhhgaaGreat Go.Proofs.YtkdomobedfhhgaaGreat.Hp Go.Proofs.YtkdomobedfhhgaaGreat.Ch Go.Proofs.YtkdomobedfhhgaaGreat.Ad

set_option maxRecDepth 100000 in
set_option maxHeartbeats 1000000 in
theorem hgraph_any (hb n : Nat) (es : List EdgeD) (R : List Int) (S : List SC) (O I : List (List Int)) (w : World) (h : HierM w hb n es R S O I) :
    Calls Tryz.prog 104 #[.pointer (some ⟨hb, 0, none⟩)] w (CGPost (n : Int) es w) := by
  obtain ⟨W, hW⟩ : ∃ W, W = w.alloc (Obj.cells #[.int .i64 0, .slice none 0 0] 24) := ⟨_, rfl⟩
  have hbw : Below w.heap.size w W := by rw [hW]; exact Below.of_al _ _
  have z := And.intro (show W.cell? ⟨w.heap.size, 0, none⟩ = some (.int .i64 0) by rw [hW]; go_simp) (And.intro (show W.cell? ⟨w.heap.size, 1, none⟩ = some (.slice none 0 0) by rw [hW]; go_simp) (And.intro (show W.frozen? ⟨w.heap.size, 0, none⟩ = false by rw [hW]; go_simp) (show W.frozen? ⟨w.heap.size, 1, none⟩ = false by rw [hW]; go_simp)))
  have hlt : w.heap.size < W.heap.size := by rw [hW]; simp
  have c0 := cell_later hbw h.c0
  obtain ⟨a, c, c1, hc⟩ := h.c1
  have c1 := cell_later hbw c1
  have HCG := Lib.hid (cloneG_any (n : Int) es a c W (hc.go hbw) h.small.2.2.1)
  have HB := Lib.hid hbw
  have HW := Lib.hid hW
  have HZ := Lib.hid z
  have HLT := Lib.hid hlt
  unfold CGPost at HCG ⊢
  unfold gV at HCG
  clear hW hbw hc z hlt h
  go_enter Tryz.func104, Tryz.ntmps104
  go_upto_region 1 with (fail)
  rw [← HW.out]
  go_wp2_with (go_at_call 97; refine HCG.out.mono ?_; rintro e w1 ⟨a1, k1, rfl, h1, h2, h3⟩; (have HC1 := Lib.hid h1); (have HB1 := Lib.hid h2); (have HF1 := Lib.hid h3); (have x0 := cell_later h2 HZ.out.1); (have x1 := cell_later h2 HZ.out.2.1); (have y0 := (h2.frozen (p := ⟨w.heap.size, 0, none⟩) HLT.out).trans HZ.out.2.2.1); (have y1 := (h2.frozen (p := ⟨w.heap.size, 1, none⟩) HLT.out).trans HZ.out.2.2.2); clear h1 h2 h3)
  have r0 : ((w1.setCell ⟨w.heap.size, 0, none⟩ (.int .i64 (n : Int))).setCell ⟨w.heap.size, 1, none⟩ (.slice a1 es.length k1)).cell? ⟨w.heap.size, 0, none⟩ = some (.int .i64 (n : Int)) := by
    rw [World.cell?_setCell_other _ _ _ _ (by simp)]; exact World.cell?_setCell_same _ _ _ x0
  have r1 : ((w1.setCell ⟨w.heap.size, 0, none⟩ (.int .i64 (n : Int))).setCell ⟨w.heap.size, 1, none⟩ (.slice a1 es.length k1)).cell? ⟨w.heap.size, 1, none⟩ = some (.slice a1 es.length k1) :=
    World.cell?_setCell_same (u := .slice none 0 0) _ _ _ (by rw [World.cell?_setCell_other _ _ _ _ (by simp)]; exact x1)
  refine bodyPost_ret (by simp [results, Tryz.results104, go_sem, r0, r1]; try rfl) rfl ?_
  refine ⟨a1, k1, rfl, fun i u hu => ?_, ((HB.out.st HB1.out).setCell (Nat.le_refl _) _).setCell (Nat.le_refl _) _, fun k hk => by have := HF1.out k hk; have := HLT.out; omega⟩
  obtain ⟨b, o, e, h9⟩ := HC1.out i u hu
  have hb9 := HF1.out b (by rw [e]; rfl)
  have := HLT.out
  refine ⟨b, o, e, ?_⟩
  rw [World.cell?_setCell_far _ _ _ _ (by simp; omega), World.cell?_setCell_far _ _ _ _ (by simp; omega)]
  exact h9

/-- where all lies -/
structure RtK where
  b4 : Nat
  b6 : Nat
  b15 : Nat
  b16 : Nat
  b17 : Nat
  lo : Nat
  hi : Nat
  ab : Nat
  ob : Nat
  sb : Nat
  kb : Nat
/-- the blocks that are one's own -/
def RtK.own (K : RtK) (k : Nat) : Prop := k = K.b4 ∨ k = K.b6 ∨ k = K.b15 ∨ k = K.b16 ∨ k = K.b17 ∨ (K.lo ≤ k ∧ k < K.hi) ∨ k = K.ob ∨ k = K.sb ∨ k = K.kb
structure RtK.OK (K : RtK) (w0 : World) (Z : Nat) : Prop where
  ge : w0.heap.size ≤ K.b4
  s46 : K.b4 < K.b6
  s6 : K.b6 < K.lo
  lh : K.lo ≤ K.hi
  o15 : K.hi ≤ K.b15
  o16 : K.b15 < K.b16
  o17 : K.b16 < K.b17
  oZ : K.b17 < Z
  ob : K.ob ≠ K.b4 ∧ K.ob ≠ K.b6 ∧ K.ob < K.b15
  sb : K.sb ≠ K.b4 ∧ K.sb ≠ K.b6 ∧ K.sb < K.b15
  kb : K.hi ≤ K.kb ∧ K.kb < K.b15
  nk : K.kb ≠ K.ob ∧ K.kb ≠ K.sb
/-- the memory at the head of the loop: v is where one is, l has been gone -/
structure RtS (K : RtK) (w0 wr : World) (hb n t : Nat) (es : List EdgeD) (lb : List LB) (D : Int → Int) (s : Int) (Ds : List Nat) (Z : Nat) (v : Nat) (l : List Int) (la : Option Addr) (lc : Nat) (asked : List Int) : Prop where
  c4 : wr.cell? ⟨K.b4, 0, none⟩ = some (.int .i64 (v : Int)) ∧ wr.frozen? ⟨K.b4, 0, none⟩ = false
  c6 : wr.cell? ⟨K.b6, 0, none⟩ = some (.slice none 0 0) ∧ wr.cell? ⟨K.b6, 1, none⟩ = some (.int .u64 0) ∧ wr.frozen? ⟨K.b6, 0, none⟩ = false ∧ wr.frozen? ⟨K.b6, 1, none⟩ = false
  c15 : wr.cell? ⟨K.b15, 0, none⟩ = some (.func (.func 25) #[.pointer (some ⟨K.ob, 0, none⟩)] #[])
  c16 : wr.cell? ⟨K.b16, 0, none⟩ = some (.slice la l.length lc) ∧ wr.cell? ⟨K.b16, 1, none⟩ = some (.int .u64 (D s - D (v : Int))) ∧ wr.frozen? ⟨K.b16, 0, none⟩ = false ∧ wr.frozen? ⟨K.b16, 1, none⟩ = false
  c17 : wr.cell? ⟨K.b17, 0, none⟩ = some (.int .u64 (D (v : Int))) ∧ wr.frozen? ⟨K.b17, 0, none⟩ = false
  cl : Cel wr la (l.map encI)
  la : ∀ x, la = some x → Z ≤ x.block ∧ x.block ∉ Ds
  adj : AdjM wr K.lo K.hi K.ab n es
  orc : OrW wr K.ob hb K.sb K.kb n t (arcG es) lb asked
  ask : asked.Nodup ∧ ∀ x ∈ asked, nodeN n x
  mks : ∀ E ∈ Ds, wr.heap[E]? = some (.deferred (some [])) ∧ Z ≤ E
  nod : Ds.Nodup
  bel : Below w0.heap.size w0 wr
  sz : Z ≤ wr.heap.size
  vn : v < n
  seg : Seg es D s l (v : Int)
  dlt : D (v : Int) ≤ D s ∧ D s ≤ 1152921504606846976
  vis : ∃ vs : List Int, vs.length = l.length ∧ vs.Nodup ∧ ∀ x ∈ vs, nodeN n x ∧ D (v : Int) < D x
section
variable {K : RtK} {w0 wr wr' : World} {hb n t : Nat} {es : List EdgeD} {lb : List LB} {D : Int → Int} {s : Int} {Ds : List Nat} {Z v : Nat} {l : List Int} {la : Option Addr} {lc : Nat} {asked : List Int}
theorem cell_kept {w w' : World} {p : Addr} {u : Value} (hk : w'.heap[p.block]? = w.heap[p.block]?) (h : w.cell? p = some u) : w'.cell? p = some u := (World.cell?_of_block hk).trans h
theorem frz_kept {w w' : World} {p : Addr} {b : Bool} (hk : w'.heap[p.block]? = w.heap[p.block]?) (h : w.frozen? p = b) : w'.frozen? p = b := (World.frozen?_of_block hk).trans h
/-- what is not one's own, and neither the row nor a mark, may change -/
theorem RtS.off {X : Nat → Prop} (h : RtS K w0 wr hb n t es lb D s Ds Z v l la lc asked) (hK : K.OK w0 Z) (ho : OffX X wr wr') (h1 : ∀ k, X k → ¬ K.own k) (h2 : ∀ x, la = some x → l ≠ [] → ¬ X x.block) (h3 : ∀ E ∈ Ds, ¬ X E) (h4 : ∀ k, X k → w0.heap.size ≤ k) : RtS K w0 wr' hb n t es lb D s Ds Z v l la lc asked := by
  have hlt : ∀ {p : Addr} {u : Value}, wr.cell? p = some u → p.block < wr.heap.size := fun hc => World.block_lt_of_cell? _ _ hc
  have keep : ∀ k, K.own k → k < wr.heap.size → wr'.heap[k]? = wr.heap[k]? := fun k hk hl => ho.block k hl (fun e => h1 k e hk)
  have l4 := hlt h.c4.1
  have l6 := hlt h.c6.1
  have l15 := hlt h.c15
  have l16 := hlt h.c16.1
  have l17 := hlt h.c17.1
  have k4 := keep K.b4 (.inl rfl) l4
  have k6 := keep K.b6 (.inr (.inl rfl)) l6
  have k15 := keep K.b15 (.inr (.inr (.inl rfl))) l15
  have k16 := keep K.b16 (.inr (.inr (.inr (.inl rfl)))) l16
  have k17 := keep K.b17 (.inr (.inr (.inr (.inr (.inl rfl))))) l17
  have hsz := h.sz
  obtain ⟨o1, o2, o3⟩ := h.orc.lt
  refine ⟨⟨cell_kept k4 h.c4.1, frz_kept k4 h.c4.2⟩, ⟨cell_kept k6 h.c6.1, cell_kept k6 h.c6.2.1, frz_kept k6 h.c6.2.2.1, frz_kept k6 h.c6.2.2.2⟩, cell_kept k15 h.c15, ⟨cell_kept k16 h.c16.1, cell_kept k16 h.c16.2.1, frz_kept k16 h.c16.2.2.1, frz_kept k16 h.c16.2.2.2⟩, ⟨cell_kept k17 h.c17.1, frz_kept k17 h.c17.2⟩,
    ?_, h.la, h.adj.kept (fun k a b => keep k (.inr (.inr (.inr (.inr (.inr (.inl ⟨a, b⟩)))))) (by have := hK.o15; have := hK.o16; have := hK.o17; have := hK.oZ; omega)), h.orc.same ?_, h.ask, fun E hE => ?_, h.nod, h.bel.trans (ho.below h.bel.size h4), Nat.le_trans h.sz ho.size, h.vn, h.seg, h.dlt, h.vis⟩
  · intro i u hu
    obtain ⟨b, o, e, h9⟩ := h.cl i u hu
    exact ⟨b, o, e, cell_kept (ho.block b (hlt h9) (h2 _ e (fun e9 => by rw [e9] at hu; simp at hu))) h9⟩
  · rintro k (rfl | rfl | rfl)
    · exact keep _ (.inr (.inr (.inr (.inr (.inr (.inr (.inl rfl))))))) o1
    · exact keep _ (.inr (.inr (.inr (.inr (.inr (.inr (.inr (.inl rfl)))))))) o2
    · exact keep _ (.inr (.inr (.inr (.inr (.inr (.inr (.inr (.inr rfl)))))))) o3
  · obtain ⟨m1, m2⟩ := h.mks E hE
    exact ⟨(ho.block E (Array.getElem?_eq_some_iff.1 m1).1 (h3 E hE)).trans m1, m2⟩
theorem RtS.go (h : RtS K w0 wr hb n t es lb D s Ds Z v l la lc asked) (hK : K.OK w0 Z) (hz : Below wr.heap.size wr wr') : RtS K w0 wr' hb n t es lb D s Ds Z v l la lc asked :=
  h.off hK (X := fun _ => False) (OffX.of_below hz) (fun _ h => h.elim) (fun _ _ _ h => h) (fun _ _ h => h) (fun _ h => h.elim)
/-- one more node was asked for -/
theorem RtS.asks {asked' : List Int} (h : RtS K w0 wr hb n t es lb D s Ds Z v l la lc asked) (hK : K.OK w0 Z) (ho : OffX (· = K.kb) wr wr') (hor : OrW wr' K.ob hb K.sb K.kb n t (arcG es) lb asked') (ha : asked'.Nodup ∧ ∀ x ∈ asked', nodeN n x) : RtS K w0 wr' hb n t es lb D s Ds Z v l la lc asked' := by
  have hlt : ∀ {p : Addr} {u : Value}, wr.cell? p = some u → p.block < wr.heap.size := fun hc => World.block_lt_of_cell? _ _ hc
  have l4 := hlt h.c4.1
  have l6 := hlt h.c6.1
  have l15 := hlt h.c15
  have l16 := hlt h.c16.1
  have l17 := hlt h.c17.1
  have f1 := hK.ge
  have f2 := hK.s46
  have f3 := hK.s6
  have f4 := hK.lh
  have f5 := hK.o15
  have f6 := hK.o16
  have f7 := hK.o17
  have f8 := hK.oZ
  have f9 := hK.kb
  have k4 := ho.block K.b4 l4 (fun e => by omega)
  have k6 := ho.block K.b6 l6 (fun e => by omega)
  have k15 := ho.block K.b15 l15 (fun e => by omega)
  have k16 := ho.block K.b16 l16 (fun e => by omega)
  have k17 := ho.block K.b17 l17 (fun e => by omega)
  have hsz := h.sz
  refine ⟨⟨cell_kept k4 h.c4.1, frz_kept k4 h.c4.2⟩, ⟨cell_kept k6 h.c6.1, cell_kept k6 h.c6.2.1, frz_kept k6 h.c6.2.2.1, frz_kept k6 h.c6.2.2.2⟩, cell_kept k15 h.c15, ⟨cell_kept k16 h.c16.1, cell_kept k16 h.c16.2.1, frz_kept k16 h.c16.2.2.1, frz_kept k16 h.c16.2.2.2⟩, ⟨cell_kept k17 h.c17.1, frz_kept k17 h.c17.2⟩,
    ?_, h.la, h.adj.kept (fun k a b => ho.block k (by omega) (fun e => by omega)), hor, ha, fun E hE => ?_, h.nod, h.bel.trans (ho.below h.bel.size (fun k e => by have e' : k = K.kb := e; omega)), Nat.le_trans h.sz ho.size, h.vn, h.seg, h.dlt, h.vis⟩
  · intro i u hu
    obtain ⟨b, o, e, h9⟩ := h.cl i u hu
    have := (h.la _ e).1
    exact ⟨b, o, e, cell_kept (ho.block b (hlt h9) (fun e' => by have e2 : b = K.kb := e'; simp only at this; omega)) h9⟩
  · obtain ⟨m1, m2⟩ := h.mks E hE
    exact ⟨(ho.block E (Array.getElem?_eq_some_iff.1 m1).1 (fun e => by have e2 : E = K.kb := e; omega)).trans m1, m2⟩
/-- an edge has been gone -/
theorem RtS.next {v' i : Nat} {la' : Option Addr} {lc' : Nat} (h : RtS K w0 wr hb n t es lb D s Ds Z v l la lc asked) (hK : K.OK w0 Z) (hl : Cel wr la' ((l ++ [(i : Int)]).map encI)) (hla : ∀ x, la' = some x → Z ≤ x.block ∧ x.block ∉ Ds) (hv : v' < n) (hs : Seg es D s (l ++ [(i : Int)]) (v' : Int)) (hd : D (v' : Int) < D (v : Int)) :
    RtS K w0 ((((wr.setCell ⟨K.b16, 0, none⟩ (.slice la' (l ++ [(i : Int)]).length lc')).setCell ⟨K.b16, 1, none⟩ (.int .u64 (D s - D (v' : Int)))).setCell ⟨K.b4, 0, none⟩ (.int .i64 (v' : Int))).setCell ⟨K.b17, 0, none⟩ (.int .u64 (D (v' : Int)))) hb n t es lb D s Ds Z v' (l ++ [(i : Int)]) la' lc' asked := by
  have f1 := hK.ge
  have f2 := hK.s46
  have f3 := hK.s6
  have f4 := hK.lh
  have f5 := hK.o15
  have f6 := hK.o16
  have f7 := hK.o17
  have f8 := hK.oZ
  have f9 := hK.kb
  have f10 := hK.ob
  have f11 := hK.sb
  have hsz := h.sz
  obtain ⟨W5, hW5⟩ : ∃ W5, W5 = ((((wr.setCell ⟨K.b16, 0, none⟩ (.slice la' (l ++ [(i : Int)]).length lc')).setCell ⟨K.b16, 1, none⟩ (.int .u64 (D s - D (v' : Int)))).setCell ⟨K.b4, 0, none⟩ (.int .i64 (v' : Int))).setCell ⟨K.b17, 0, none⟩ (.int .u64 (D (v' : Int)))) := ⟨_, rfl⟩
  rw [← hW5]
  have keep : ∀ k, k ≠ K.b16 → k ≠ K.b4 → k ≠ K.b17 → W5.heap[k]? = wr.heap[k]? := fun k h1 h2 h3 => by
    rw [hW5, Below.heap_setCell _ _ _ _ h3, Below.heap_setCell _ _ _ _ h2, Below.heap_setCell _ _ _ _ h1, Below.heap_setCell _ _ _ _ h1]
  have frz : ∀ p, W5.frozen? p = wr.frozen? p := fun p => by rw [hW5, World.frozen?_setCell, World.frozen?_setCell, World.frozen?_setCell, World.frozen?_setCell]
  have hb : Below w0.heap.size w0 W5 := by
    rw [hW5]
    exact (((h.bel.setCell (p := ⟨K.b16, 0, none⟩) (by show w0.heap.size ≤ K.b16; omega) _).setCell (p := ⟨K.b16, 1, none⟩) (by show w0.heap.size ≤ K.b16; omega) _).setCell (p := ⟨K.b4, 0, none⟩) f1 _).setCell (p := ⟨K.b17, 0, none⟩) (by show w0.heap.size ≤ K.b17; omega) _
  have hz : W5.heap.size = wr.heap.size := by rw [hW5]; simp [World.setCell]
  have k6 := keep K.b6 (by omega) (by omega) (by omega)
  have k15 := keep K.b15 (by omega) (by omega) (by omega)
  refine ⟨⟨?_, by rw [frz]; exact h.c4.2⟩, ⟨cell_kept k6 h.c6.1, cell_kept k6 h.c6.2.1, frz_kept k6 h.c6.2.2.1, frz_kept k6 h.c6.2.2.2⟩, cell_kept k15 h.c15, ⟨?_, ?_, by rw [frz]; exact h.c16.2.2.1, by rw [frz]; exact h.c16.2.2.2⟩, ⟨?_, by rw [frz]; exact h.c17.2⟩,
    ?_, hla, h.adj.kept (fun k a b => keep k (by omega) (by omega) (by omega)), h.orc.same ?_, h.ask, fun E hE => ?_, h.nod, hb, by rw [hz]; exact h.sz, hv, hs, ⟨by have := h.dlt.1; omega, h.dlt.2⟩, ?_⟩
  · rw [hW5, World.cell?_setCell_far _ _ _ _ (by show K.b17 ≠ K.b4; omega)]
    exact World.cell?_setCell_same (u := .int .i64 (v : Int)) _ _ _ (by rw [World.cell?_setCell_far _ _ _ _ (by show K.b16 ≠ K.b4; omega), World.cell?_setCell_far _ _ _ _ (by show K.b16 ≠ K.b4; omega)]; exact h.c4.1)
  · rw [hW5, World.cell?_setCell_far _ _ _ _ (by show K.b17 ≠ K.b16; omega), World.cell?_setCell_far _ _ _ _ (by show K.b4 ≠ K.b16; omega), World.cell?_setCell_other _ _ _ _ (by simp)]
    exact World.cell?_setCell_same _ _ _ h.c16.1
  · rw [hW5, World.cell?_setCell_far _ _ _ _ (by show K.b17 ≠ K.b16; omega), World.cell?_setCell_far _ _ _ _ (by show K.b4 ≠ K.b16; omega)]
    exact World.cell?_setCell_same (u := .int .u64 (D s - D (v : Int))) _ _ _ (by rw [World.cell?_setCell_other _ _ _ _ (by simp)]; exact h.c16.2.1)
  · rw [hW5]
    exact World.cell?_setCell_same (u := .int .u64 (D (v : Int))) _ _ _ (by rw [World.cell?_setCell_far _ _ _ _ (by show K.b4 ≠ K.b17; omega), World.cell?_setCell_far _ _ _ _ (by show K.b16 ≠ K.b17; omega), World.cell?_setCell_far _ _ _ _ (by show K.b16 ≠ K.b17; omega)]; exact h.c17.1)
  · intro j u hu
    obtain ⟨b, o, e, h9⟩ := hl j u hu
    have := (hla _ e).1
    simp only at this
    exact ⟨b, o, e, cell_kept (keep b (by omega) (by omega) (by omega)) h9⟩
  · rintro k (rfl | rfl | rfl)
    · exact keep _ (by omega) (by omega) (by omega)
    · exact keep _ (by omega) (by omega) (by omega)
    · exact keep _ (by omega) (by omega) (by omega)
  · obtain ⟨m1, m2⟩ := h.mks E hE
    exact ⟨(keep E (by omega) (by omega) (by omega)).trans m1, m2⟩
  · obtain ⟨vs, e1, e2, e3⟩ := h.vis
    refine ⟨(v : Int) :: vs, by simp [e1], List.nodup_cons.2 ⟨fun hm => by have := (e3 _ hm).2; omega, e2⟩, fun x hx => ?_⟩
    rcases List.mem_cons.1 hx with rfl | hx
    · exact ⟨⟨by omega, by have := h.vn; omega⟩, hd⟩
    · have := e3 x hx
      exact ⟨this.1, by omega⟩
/-- one more mark -/
theorem RtS.mark {E : Nat} (h : RtS K w0 wr hb n t es lb D s Ds Z v l la lc asked) (hE : wr.heap[E]? = some (.deferred (some []))) (hZ : Z ≤ E) (hn : E ∉ Ds) (hla : ∀ x, la = some x → x.block ≠ E) : RtS K w0 wr hb n t es lb D s (E :: Ds) Z v l la lc asked :=
  ⟨h.c4, h.c6, h.c15, h.c16, h.c17, h.cl, fun x hx => ⟨(h.la x hx).1, fun hm => by
    rcases List.mem_cons.1 hm with e | e
    · exact hla x hx e
    · exact (h.la x hx).2 e⟩, h.adj, h.orc, h.ask, fun F hF => by
    rcases List.mem_cons.1 hF with rfl | e
    · exact ⟨hE, hZ⟩
    · exact h.mks F e, List.nodup_cons.2 ⟨hn, h.nod⟩, h.bel, h.sz, h.vn, h.seg, h.dlt, h.vis⟩
end
end Go.Proofs.YtkdomobedfhhgaaGreat.Ro
