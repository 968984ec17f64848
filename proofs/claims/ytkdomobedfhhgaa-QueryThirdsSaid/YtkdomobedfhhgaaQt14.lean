/-
  The search for a lighter way round, in plain Lean: what is found is some way.
  Walk of package witness: the search for a lighter way round.
-/
import Derived.Test.YtkdomobedfhhgaaQt03
import Derived.Test.YtkdomobedfhhgaaQt13
import Derived.Test.YtkdomobedfhhgaaProg
import Derived.Test.YtkdomobedfhhgaaQt08
import Derived.Test.YtkdomobedfhhgaaQt09
set_option linter.unusedVariables false
set_option linter.unusedSimpArgs false
set_option linter.unnecessarySimpa false
section
namespace Go.Proofs.Ytkdomobedfhhgaa.Ch
open Go.Proofs.Ytkdomobedfhhgaa.Hp
theorem sub_len : ∀ (a b : List Int), a.Nodup → (∀ x ∈ a, x ∈ b) → a.length ≤ b.length
  | [], _, _, _ => by simp
  | x :: r, b, hn, hs => by
    have hx := hs x (by simp)
    obtain ⟨h1, h2⟩ := List.nodup_cons.1 hn
    have h3 := sub_len r (b.erase x) h2 (fun y hy => (List.mem_erase_of_ne (by rintro rfl; exact h1 hy)).2 (hs y (by simp [hy])))
    have h4 := List.length_erase_of_mem hx
    have h5 := List.length_pos_of_mem hx
    rw [List.length_cons]
    omega
theorem heap_len {l : List IK} {p : List Int} (h : HeapOK l p) : l.length ≤ p.length := by
  have h1 : (l.map (·.1)).Nodup := by
    rw [List.nodup_iff_pairwise_ne, List.pairwise_iff_getElem]
    intro i j hi hj hlt e
    simp only [List.length_map] at hi hj
    rw [List.getElem_map, List.getElem_map] at e
    have := h.c.inj (i := i) (j := j) hi hj (by rw [gI_in hi, gI_in hj]; exact e)
    omega
  have h2 : ∀ x ∈ l.map (·.1), x ∈ (List.range p.length).map Int.ofNat := by
    intro x hx
    obtain ⟨y, hy, rfl⟩ := List.mem_map.1 hx
    obtain ⟨j, hj, rfl⟩ := mem_gI.1 hy
    have := h.c.pos j hj
    exact List.mem_map.2 ⟨(gI l j).1.toNat, List.mem_range.2 this.2.1, by show (((gI l j).1.toNat : Nat) : Int) = _; omega⟩
  have := sub_len _ _ h1 h2
  simpa using this

/-- arcs to nodes that are not gone -/
def NR (O : List (List (Int × Int))) (gone : List Bool) : Int → Int → Int → Prop := fun u v w => nodeN O.length u ∧ (v, w) ∈ rowO O u ∧ gone.getD v.toNat true = false
/-- a net may be searched -/
structure NetOK (O : List (List (Int × Int))) (gone : List Bool) (B : Int) : Prop where
  len : gone.length = O.length
  arcs : ∀ u a, nodeN O.length u → a ∈ rowO O u → nodeN O.length a.1 ∧ 1 ≤ a.2 ∧ a.2 ≤ B
variable {O : List (List (Int × Int))} {gone : List Bool} {B M : Int} {s : Int} {far : List (Option Int)} {l : List IK} {p : List Int}
/-- the state of a search: how far nodes are so far, what waits -/
structure SInv (O : List (List (Int × Int))) (gone : List Bool) (B M : Int) (s : Int) (far : List (Option Int)) (l : List IK) (p : List Int) : Prop where
  ok : HeapOK l p
  lp : p.length = O.length
  lf : far.length = O.length
  hp : ∀ v k, (v, k) ∈ l → far.getD v.toNat none = some k
  way : ∀ v d, nodeN O.length v → far.getD v.toNat none = some d → Way0 (NR O gone) Any s v d ∧ 0 ≤ d ∧ d ≤ M + B
theorem getD_set {α : Type} (l : List α) (i j : Nat) (x d : α) (hi : i < l.length) : (l.set i x).getD j d = if j = i then x else l.getD j d := by
  rw [List.getD_eq_getElem?_getD, List.getElem?_set, List.getD_eq_getElem?_getD]
  by_cases e : i = j
  · subst e; simp [hi]
  · rw [if_neg e, if_neg (fun h => e h.symm)]
/-- what is popped is some way's end -/
theorem SInv.pop (h : SInv O gone B M s far l p) {x : IK} {r : List IK} (hl : l = x :: r) : nodeN O.length x.1 ∧ far.getD x.1.toNat none = some x.2 ∧ Way0 (NR O gone) Any s x.1 x.2 ∧ 0 ≤ x.2 ∧ x.2 ≤ M + B ∧
    SInv O gone B M s far (dropF l p x.1.toNat 0).1 (dropF l p x.1.toNat 0).2 := by
  subst hl
  have hp0 := h.ok.c.pos 0 (by simp)
  have hg : gI (x :: r) 0 = x := rfl
  rw [hg] at hp0
  have hn : nodeN O.length x.1 := ⟨hp0.1, by have := h.lp; omega⟩
  have hf := h.hp x.1 x.2 (by simp)
  obtain ⟨w1, w2, w3⟩ := h.way _ _ hn hf
  obtain ⟨d1, d2, d3, d4⟩ := dropF_law h.ok hp0.2.1 (i := 0) (by simp) hp0.2.2 (by rw [hg]; omega)
  refine ⟨hn, hf, w1, w2, w3, d1, by rw [d2]; exact h.lp, h.lf, ?_, h.way⟩
  intro v k hk
  exact h.hp v k ((d4 _).1 hk).1
/-- a node is made nearer by an arc -/
theorem SInv.relax (hO : NetOK O gone B) (h : SInv O gone B M s far l p) {u : Int} {d : Int} (hu : nodeN O.length u) (hd : Way0 (NR O gone) Any s u d) (hd0 : 0 ≤ d) (hdM : d < M) {a : Int × Int} (ha : a ∈ rowO O u) (hg : gone.getD a.1.toNat true = false)
    (hless : ∀ k, far.getD a.1.toNat none = some k → d + a.2 < k) :
    SInv O gone B M s (far.set a.1.toNat (some (d + a.2))) (putF l p a.1.toNat (d + a.2)).2.1 (putF l p a.1.toNat (d + a.2)).2.2 := by
  obtain ⟨an, a1, a2⟩ := hO.arcs u a hu ha
  have hlt : a.1.toNat < p.length := by have := h.lp; omega
  have hlf : a.1.toNat < far.length := by have := h.lf; omega
  have hcast : ((a.1.toNat : Nat) : Int) = a.1 := by omega
  obtain ⟨q1, q2, q3, q4, _⟩ := putF_law h.ok hlt (d + a.2)
  have htrue : (putF l p a.1.toNat (d + a.2)).1 = true := by
    cases e : (putF l p a.1.toNat (d + a.2)).1 with
    | true => rfl
    | false =>
      obtain ⟨_, k, hk, hle⟩ := q4 e
      rw [hcast] at hk
      have := hless k (h.hp _ _ hk)
      omega
  have q3 := q3 htrue
  rw [hcast] at q3
  refine ⟨q1, by rw [q2]; exact h.lp, by rw [List.length_set]; exact h.lf, ?_, ?_⟩
  · intro v k hk
    rw [getD_set _ _ _ _ _ hlf]
    rcases (q3 _).1 hk with e | ⟨e1, e2⟩
    · obtain ⟨rfl, rfl⟩ := Prod.mk.inj e
      rw [if_pos rfl]
    · have hv := h.ok.c
      obtain ⟨j, hj, ej⟩ := mem_gI.1 e1
      have hpos := (hv.pos j hj).1
      rw [ej] at hpos
      simp only at hpos e2
      rw [if_neg (by omega)]
      exact h.hp v k e1
  · intro v e hv hve
    rw [getD_set _ _ _ _ _ hlf] at hve
    split at hve
    · rename_i e2
      obtain rfl : v = a.1 := by omega
      cases hve
      exact ⟨hd.trans trivial (.inr (.one ⟨hu, ha, hg⟩)), by omega, by omega⟩
    · exact h.way v e hv hve
/-- at the start -/
theorem SInv.begin (hs : nodeN O.length s) (hM : 0 ≤ M + B) : SInv O gone B M s ((List.replicate O.length none).set s.toNat (some 0)) (putF [] (List.replicate O.length (-1)) s.toNat 0).2.1 (putF [] (List.replicate O.length (-1)) s.toNat 0).2.2 := by
  have hlt : s.toNat < (List.replicate O.length (-1 : Int)).length := by simp; omega
  have hlf : s.toNat < (List.replicate O.length (none : Option Int)).length := by simp; omega
  have hcast : ((s.toNat : Nat) : Int) = s := by omega
  obtain ⟨q1, q2, q3, q4, _⟩ := putF_law (heap_new O.length) hlt 0
  have htrue : (putF [] (List.replicate O.length (-1)) s.toNat 0).1 = true := by
    cases e : (putF [] (List.replicate O.length (-1)) s.toNat 0).1 with
    | true => rfl
    | false =>
      obtain ⟨_, k, hk, _⟩ := q4 e
      simp at hk
  have q3 := q3 htrue
  rw [hcast] at q3
  refine ⟨q1, by rw [q2]; simp, by simp, ?_, ?_⟩
  · intro v k hk
    rw [getD_set _ _ _ _ _ hlf]
    rcases (q3 _).1 hk with e | ⟨e1, _⟩
    · obtain ⟨rfl, rfl⟩ := Prod.mk.inj e
      rw [if_pos rfl]
    · simp at e1
  · intro v e hv hve
    rw [getD_set _ _ _ _ _ hlf] at hve
    split at hve
    · rename_i e2
      obtain rfl : v = s := by omega
      cases hve
      exact ⟨.inl ⟨rfl, rfl⟩, Int.le_refl _, hM⟩
    · exfalso
      rw [List.getD_eq_getElem?_getD, List.getElem?_replicate] at hve
      split at hve <;> simp at hve
end Go.Proofs.Ytkdomobedfhhgaa.Ch
end

section
namespace Go.Proofs.Ytkdomobedfhhgaa
open Go Go.Proofs Go.RowKit Go.Shelf Go.Proofs.Ytkdomobedfhhgaa.Hp Go.Proofs.Ytkdomobedfhhgaa.Ch

abbrev encB (b : Bool) : Value := .bool b
/-- a net in memory, to be read -/
def NetW (w : World) (vo vg : Value) (O : List (List (Int × Int))) (gone : List Bool) : Prop :=
  ∃ ao co go cg rows, vo = .slice ao O.length co ∧ vg = .slice go gone.length cg ∧ Cel w ao rows ∧ rows.length = O.length ∧ Cel w go (gone.map encB) ∧
    ∀ i (h : i < O.length), ∃ ai ci, rows[i]? = some (.slice ai O[i].length ci) ∧ Cel w ai (flatI O[i])
theorem NetW.go {w w' : World} {vo vg : Value} {O : List (List (Int × Int))} {gone : List Bool} (h : NetW w vo vg O gone) (hb : Below w.heap.size w w') : NetW w' vo vg O gone := by
  obtain ⟨ao, co, go, cg, rows, h1, h2, h3, h4, h5, h6⟩ := h
  refine ⟨ao, co, go, cg, rows, h1, h2, h3.go hb, h4, h5.go hb, fun i hi => ?_⟩
  obtain ⟨ai, ci, h7, h8⟩ := h6 i hi
  exact ⟨ai, ci, h7, h8.go hb⟩

/-- the search's own memory -/
structure SrW (w0 W : World) (sb rb fb hb : Nat) (va v : Value) (far : List (Option Int)) (st : List Int) (l : List IK) (p : List Int) : Prop where
  s1 : StW W sb rb far
  hp : HeapW W hb v va l p
  sp : W.ownsRow 0 3 1 (.slice (some ⟨fb, 0, none⟩) st.length st.length) st.length (st.map encI)
  bel : Below w0.heap.size w0 W
  ge : w0.heap.size ≤ sb ∧ w0.heap.size ≤ rb ∧ w0.heap.size ≤ fb ∧ ∀ k, HX hb v va k → w0.heap.size ≤ k
  sep : ∀ k, HX hb v va k → k ≠ sb ∧ k ≠ rb ∧ k ≠ fb
  sf : fb ≠ sb ∧ fb ≠ rb
variable {w0 W W' : World} {sb rb fb hb : Nat} {va v : Value} {far : List (Option Int)} {st : List Int} {l : List IK} {p : List Int}
theorem SrW.go (h : SrW w0 W sb rb fb hb va v far st l p) (hb' : Below W.heap.size W W') : SrW w0 W' sb rb fb hb va v far st l p :=
  ⟨h.s1.go hb', h.hp.go hb', hp_owns_go h.sp hb', h.bel.st hb', h.ge, h.sep, h.sf⟩
theorem owns_offH {X : Nat → Prop} {w w' : World} {base : Nat} {e : TypeId} {size n g c : Nat} {xs : List Value} (h : w.ownsRow base e size (.slice (some ⟨g, 0, none⟩) n c) n xs) (ho : OffX X w w') (hn : ¬ X g) : w'.ownsRow base e size (.slice (some ⟨g, 0, none⟩) n c) n xs := by
  refine ⟨h.1, ?_⟩
  have hl := (h.lt g rfl).2
  rcases h.2 with h2' | ⟨g', cap, cur, hv, hbg, hg, r⟩
  · exact .inl h2'
  · cases hv
    exact .inr ⟨_, _, cur, rfl, hbg, by rw [ho.block _ hl hn]; exact hg, r⟩
theorem SrW.heap {v' : Value} {l' : List IK} {p' : List Int} (h : SrW w0 W sb rb fb hb va v far st l p) (hh : HeapW W' hb v' va l' p') (ho : OffX (HX hb v va) W W') (hv : v'.ownBlock = v.ownBlock ∨ ∃ g, v'.ownBlock = some g ∧ W.heap.size ≤ g) : SrW w0 W' sb rb fb hb va v' far st l' p' := by
  have hfb : fb < W.heap.size := (h.sp.lt fb rfl).2
  have hs := h.s1.lt
  have hw0 := h.bel.size
  have hsub : ∀ k, HX hb v' va k → HX hb v va k ∨ W.heap.size ≤ k := by
    rintro k (hk | hk | hk)
    · exact .inl (.inl hk)
    · rcases hv with e | ⟨g, e, hg⟩
      · exact .inl (.inr (.inl (e.symm.trans hk)))
      · rw [e] at hk
        cases hk
        exact .inr hg
    · exact .inl (.inr (.inr hk))
  refine ⟨h.s1.off ho (fun k => (h.sep _ k).1 rfl) (fun k => (h.sep _ k).2.1 rfl), hh, owns_offH h.sp ho (fun k => (h.sep _ k).2.2 rfl), h.bel.trans (ho.below h.bel.size h.ge.2.2.2), ⟨h.ge.1, h.ge.2.1, h.ge.2.2.1, ?_⟩, ?_, h.sf⟩
  · intro k hk
    rcases hsub k hk with hk | hk
    · exact h.ge.2.2.2 k hk
    · omega
  · intro k hk
    rcases hsub k hk with hk | hk
    · exact h.sep k hk
    · omega
theorem SrW.stamp {far' : List (Option Int)} (h : SrW w0 W sb rb fb hb va v far st l p) (hh : StW W' sb rb far') (ho : OffX (SX sb rb) W W') : SrW w0 W' sb rb fb hb va v far' st l p := by
  have hnot : ∀ k, HX hb v va k → ¬ SX sb rb k := by
    rintro k hk (e | e)
    · exact (h.sep k hk).1 e
    · exact (h.sep k hk).2.1 e
  refine ⟨hh, ?_, owns_offH h.sp ho (by rintro (e | e); exact h.sf.1 e; exact h.sf.2 e), h.bel.trans (ho.below h.bel.size (by rintro k (rfl | rfl); exact h.ge.1; exact h.ge.2.1)), h.ge, h.sep, h.sf⟩
  refine ⟨h.hp.pb.eq (ho.block _ h.hp.pb.lt (hnot _ (.inl rfl))), ?_, ?_, h.hp.d1, h.hp.d2, h.hp.d3⟩
  · obtain ⟨ao, c, rfl, -⟩ := Cel.of_owns h.hp.ol
    refine ⟨h.hp.ol.1, ?_⟩
    rcases h.hp.ol.2 with h2' | ⟨g', cap, cur, hv, hbg, hg, r⟩
    · exact .inl h2'
    · cases hv
      exact .inr ⟨_, _, cur, rfl, hbg, by rw [ho.block _ (Array.getElem?_eq_some_iff.1 hg).1 (hnot _ (.inr (.inl rfl)))]; exact hg, r⟩
  · refine ⟨h.hp.oa.1, ?_⟩
    rcases h.hp.oa.2 with h2' | ⟨g', cap, cur, hv, hbg, hg, r⟩
    · exact .inl h2'
    · exact .inr ⟨g', cap, cur, hv, hbg, by rw [ho.block _ (Array.getElem?_eq_some_iff.1 hg).1 (hnot _ (.inr (.inr (by rw [hv]; rfl))))]; exact hg, r⟩
theorem SrW.step (h : SrW w0 W sb rb fb hb va v far st l p) (i : Nat) (x : Int) : SrW w0 (W.setCell ⟨fb, i, none⟩ (.int .i64 x)) sb rb fb hb va v far (st.set i x) l p := by
  have ho : OffX (· = fb) W (W.setCell ⟨fb, i, none⟩ (.int .i64 x)) := .set _ rfl
  have hnot : ∀ k, HX hb v va k → ¬ k = fb := fun k hk e => (h.sep k hk).2.2 e
  refine ⟨h.s1.off ho (fun e => h.sf.1 e.symm) (fun e => h.sf.2 e.symm), ?_, ?_, h.bel.setCell h.ge.2.2.1 _, h.ge, h.sep, h.sf⟩
  · exact ⟨h.hp.pb.setAt (fun e => hnot hb (.inl rfl) e.symm) _, ownsRow_setCell_other (a := ⟨fb, i, none⟩) h.hp.ol (fun e => hnot fb (.inr (.inl e)) rfl) _, ownsRow_setCell_other (a := ⟨fb, i, none⟩) h.hp.oa (fun e => hnot fb (.inr (.inr e)) rfl) _, h.hp.d1, h.hp.d2, h.hp.d3⟩
  · have h1 := (h.sp.stored i (.int .i64 x)).1
    rw [← List.map_set (f := encI)] at h1
    rw [List.length_set]
    exact h1

end Go.Proofs.Ytkdomobedfhhgaa
end
