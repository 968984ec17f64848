/-
  A heap as it lies in memory: its record, its row of items, its row of places. What stores and calls leave of it.
  Walk of package heap: which item is ahead, an item at a place, rising, sinking.
-/
import Derived.Test.YtkdomobedfhhgaaProg
import Derived.Test.YtkdomobedfhhgaaQt01
import Derived.Test.YtkdomobedfhhgaaQt03
import Derived.Test.YtkdomobedfhhgaaQt04
import Derived.Laws.OwnMore
import Derived.WalkSmall
import Derived.OneCell
import Derived.Deep.Cut
import Derived.Deep.RegionLaw
set_option linter.unusedVariables false
set_option linter.unusedSimpArgs false
set_option linter.unnecessarySimpa false
section
namespace Go.Proofs.Ytkdomobedfhhgaa
open Go Go.Proofs Go.RowKit Go.Shelf Go.Proofs.Ytkdomobedfhhgaa.Hp

/-- the cells of a record that may be written -/
def PB (W : World) (b : Nat) (xs : List Value) : Prop := ∀ (i : Nat) (x : Value), xs[i]? = some x → W.cell? ⟨b, i, none⟩ = some x ∧ W.frozen? ⟨b, i, none⟩ = false
theorem PB.eq {W W' : World} {b : Nat} {xs : List Value} (h : PB W b xs) (he : W'.heap[b]? = W.heap[b]?) : PB W' b xs := fun i x hx =>
  ⟨(World.cell?_of_block (a := ⟨b, i, none⟩) he).trans (h i x hx).1, (World.frozen?_of_block (a := ⟨b, i, none⟩) he).trans (h i x hx).2⟩
theorem PB.lt {W : World} {b : Nat} {x : Value} {xs : List Value} (h : PB W b (x :: xs)) : b < W.heap.size := World.block_lt_of_cell? _ _ (h 0 x rfl).1
theorem PB.go {W W' : World} {b : Nat} {x : Value} {xs : List Value} (h : PB W b (x :: xs)) (hb : Below W.heap.size W W') : PB W' b (x :: xs) := h.eq (hb.block b h.lt)
theorem PB.setAt {W : World} {b c j : Nat} {xs : List Value} (h : PB W b xs) (hn : c ≠ b) (u : Value) : PB (W.setCell ⟨c, j, none⟩ u) b xs := h.eq (Below.heap_setCell _ _ _ _ (Ne.symm hn))
theorem PB.set {W : World} {b : Nat} {xs : List Value} (h : PB W b xs) (j : Nat) (u : Value) : PB (W.setCell ⟨b, j, none⟩ u) b (xs.set j u) := by
  intro i x hx
  rw [World.frozen?_setCell]
  by_cases e : i = j
  · subst e
    have hlt : i < xs.length := by
      have := (List.getElem?_eq_some_iff.1 hx).1
      simpa using this
    rw [List.getElem?_set_self hlt] at hx
    cases hx
    obtain ⟨h1, h2⟩ := h i xs[i] (List.getElem?_eq_getElem hlt)
    exact ⟨World.cell?_setCell_same _ _ _ h1, h2⟩
  · rw [List.getElem?_set_ne (Ne.symm e)] at hx
    obtain ⟨h1, h2⟩ := h i x hx
    exact ⟨by rw [World.cell?_setCell_other _ _ _ _ (by simp; try omega)]; exact h1, h2⟩

def flatI : List IK → List Value
  | [] => []
  | x :: l => .int .i64 x.1 :: .int .u64 x.2 :: flatI l
theorem flatI_len : ∀ l, (flatI l).length = l.length * 2
  | [] => rfl
  | x :: l => by rw [flatI]; simp [flatI_len l]; omega
theorem flatI_get : ∀ (l : List IK) (k : Nat), k < l.length → (flatI l)[k * 2]? = some (.int .i64 (gI l k).1) ∧ (flatI l)[k * 2 + 1]? = some (.int .u64 (gI l k).2)
  | x :: l, 0, _ => ⟨rfl, rfl⟩
  | x :: l, k + 1, h => by
    have := flatI_get l k (by simpa using h)
    rw [show (k + 1) * 2 = k * 2 + 2 by omega]
    exact this
theorem flatI_append : ∀ (l m : List IK), flatI (l ++ m) = flatI l ++ flatI m
  | [], m => rfl
  | x :: l, m => by rw [List.cons_append, flatI, flatI, flatI_append l m]; rfl
theorem flatI_set : ∀ (l : List IK) (k : Nat) (y : IK), ((flatI l).set (k * 2) (.int .i64 y.1)).set (k * 2 + 1) (.int .u64 y.2) = flatI (l.set k y)
  | [], k, y => by simp [flatI]
  | x :: l, 0, y => rfl
  | x :: l, k + 1, y => by
    have := flatI_set l k y
    rw [show (k + 1) * 2 = k * 2 + 2 by omega]
    show Value.int .i64 x.1 :: Value.int .u64 x.2 :: (((flatI l).set (k * 2) _).set (k * 2 + 1) _) = _
    rw [this]
    rfl

theorem hp_owns_go {w w' : World} {base : Nat} {e : TypeId} {size n : Nat} {v : Value} {xs : List Value} (h : w.ownsRow base e size v n xs) (hb : Below w.heap.size w w') : w'.ownsRow base e size v n xs := by
  refine ⟨h.1, ?_⟩
  rcases h.2 with h2 | ⟨g, cap, cur, hv, hbg, hg, r⟩
  · exact .inl h2
  · exact .inr ⟨g, cap, cur, hv, hbg, by rw [hb.block g (Array.getElem?_eq_some_iff.1 hg).1]; exact hg, r⟩
/-- a heap in memory -/
structure HeapW (w : World) (b : Nat) (v va : Value) (l : List IK) (p : List Int) : Prop where
  pb : PB w b [v, va]
  ol : w.ownsRow 0 126 2 v l.length (flatI l)
  oa : w.ownsRow 0 3 1 va p.length (p.map encI)
  d1 : v.ownBlock ≠ some b
  d2 : va.ownBlock ≠ some b
  d3 : ∀ k, v.ownBlock = some k → va.ownBlock ≠ some k
/-- its blocks -/
def HX (b : Nat) (v va : Value) (k : Nat) : Prop := k = b ∨ v.ownBlock = some k ∨ va.ownBlock = some k
theorem HeapW.go {w w' : World} {b : Nat} {v va : Value} {l : List IK} {p : List Int} (h : HeapW w b v va l p) (hb : Below w.heap.size w w') : HeapW w' b v va l p :=
  ⟨h.pb.go hb, hp_owns_go h.ol hb, hp_owns_go h.oa hb, h.d1, h.d2, h.d3⟩

theorem HeapW.dr {w : World} {b : Nat} {v va : Value} {l : List IK} {p : List Int} (h : HeapW w b v va l p) : HeapW w.drew b v va l p := h.go ((Below.refl _ _).drew)
theorem HeapW.item {w : World} {b g cg : Nat} {va : Value} {l : List IK} {p : List Int} (h : HeapW w b (.slice (some ⟨g, 0, none⟩) l.length cg) va l p) (i : Nat) (x : IK) :
    HeapW ((w.setCell ⟨g, i * 2, none⟩ (.int .i64 x.1)).setCell ⟨g, i * 2 + 1, none⟩ (.int .u64 x.2)) b (.slice (some ⟨g, 0, none⟩) (l.set i x).length cg) va (l.set i x) p := by
  have d1 : g ≠ b := by have := h.d1; simpa [Value.ownBlock] using this
  have d3 := h.d3 g rfl
  refine ⟨?_, ?_, ?_, h.d1, h.d2, ?_⟩
  · rw [List.length_set]
    exact (h.pb.setAt d1 _).setAt d1 _
  · have h1 := (h.ol.stored (i * 2) (.int .i64 x.1)).1
    have h2 := (h1.stored (i * 2 + 1) (.int .u64 x.2)).1
    rw [flatI_set] at h2
    rw [List.length_set]
    exact h2
  · exact ownsRow_setCell_other (a := ⟨g, i * 2 + 1, none⟩) (ownsRow_setCell_other (a := ⟨g, i * 2, none⟩) h.oa d3 _) d3 _
  · intro k hk
    exact h.d3 k hk
theorem HeapW.place {w : World} {b a ca : Nat} {v : Value} {l : List IK} {p : List Int} (h : HeapW w b v (.slice (some ⟨a, 0, none⟩) p.length ca) l p) (u : Nat) (x : Int) :
    HeapW (w.setCell ⟨a, u, none⟩ (.int .i64 x)) b v (.slice (some ⟨a, 0, none⟩) (p.set u x).length ca) l (p.set u x) := by
  have d2 : a ≠ b := by have := h.d2; simpa [Value.ownBlock] using this
  refine ⟨?_, ?_, ?_, h.d1, h.d2, ?_⟩
  · rw [List.length_set]
    exact h.pb.setAt d2 _
  · exact ownsRow_setCell_other (a := ⟨a, u, none⟩) h.ol (fun e => h.d3 a e rfl) _
  · have h1 := (h.oa.stored u (.int .i64 x)).1
    rw [← List.map_set (f := encI)] at h1
    rw [List.length_set]
    exact h1
  · intro k hk
    exact h.d3 k hk

end Go.Proofs.Ytkdomobedfhhgaa
end

section
namespace Go.Proofs.Ytkdomobedfhhgaa
open Go Go.Proofs Go.RowKit Go.Shelf Go.Proofs.Ytkdomobedfhhgaa.Hp

abbrev itemV (x : IK) : Value := .agg #[.int .i64 x.1, .int .u64 x.2]

theorem hLess_any (a b : IK) (w : World) : Calls Try.prog 68 #[itemV a, itemV b] w fun e w' => e = .returned (.bool (lessI a b)) ∧ Below w.heap.size w w' := by
  obtain ⟨a1, a2⟩ := a
  obtain ⟨b1, b2⟩ := b
  unfold lessI
  simp only
  cases h1 : decide (a2 < b2) with
  | true =>
    go_enter Try.func68, Try.ntmps68
    go_wp2
    go_ret
    exact ⟨rfl, (Below.of_al _ _).al _⟩
  | false =>
    rw [Bool.false_or]
    by_cases h2 : a2 = b2
    · subst h2
      rw [decide_eq_true rfl, Bool.true_and]
      have g2 : (a2 == a2) = true := by simp
      go_enter Try.func68, Try.ntmps68
      go_wp2
      go_ret
      exact ⟨rfl, (Below.of_al _ _).al _⟩
    · rw [decide_eq_false h2, Bool.false_and]
      have g2 : (a2 == b2) = false := by simpa using h2
      clear h2
      go_enter Try.func68, Try.ntmps68
      go_wp2
      go_ret
      exact ⟨rfl, (Below.of_al _ _).al _⟩

/-- the rows' blocks -/
def RX (v va : Value) (k : Nat) : Prop := v.ownBlock = some k ∨ va.ownBlock = some k
theorem own_form {w : World} {base size n : Nat} {e : TypeId} {v : Value} {xs : List Value} (h : w.ownsRow base e size v n xs) (hn : 0 < n) : ∃ g cap, v = .slice (some ⟨g, 0, none⟩) n cap := by
  rcases h.2 with ⟨_, e⟩ | ⟨g, cap, cur, e, _⟩
  · omega
  · exact ⟨g, cap, e⟩

set_option maxRecDepth 100000 in
set_option maxHeartbeats 1000000 in
theorem hLay_any (b : Nat) (v va : Value) (l : List IK) (p : List Int) (i u : Nat) (k : Int) (w : World) (h : HeapW w b v va l p) (hi : i < l.length) (hu : u < p.length) :
    Calls Try.prog 69 #[.pointer (some ⟨b, 0, none⟩), .int .i64 i, itemV ((u : Int), k)] w fun e w' => e = .returned (.tuple #[]) ∧ HeapW w' b v va (l.set i ((u : Int), k)) (p.set u (i : Int)) ∧ OffX (RX v va) w w' := by
  obtain ⟨g, cg, rfl⟩ := own_form h.ol (by omega)
  obtain ⟨a, ca, rfl⟩ := own_form h.oa (by omega)
  have hb : b < w.heap.size := h.pb.lt
  obtain ⟨W, hW⟩ : ∃ W, W = w.alloc (Obj.cells #[.int .i64 (u : Int), .int .u64 k] 126) := ⟨_, rfl⟩
  have H := Lib.hid (show HeapW W b _ _ l p by rw [hW]; exact h.go (Below.of_al _ _))
  have HB := Lib.hid (show Below w.heap.size w W by rw [hW]; exact Below.of_al _ _)
  have c0 : W.cell? ⟨w.heap.size, 0, none⟩ = some (.int .i64 (u : Int)) := by rw [hW]; go_simp
  have c1 : W.cell? ⟨w.heap.size, 1, none⟩ = some (.int .u64 k) := by rw [hW]; go_simp
  obtain ⟨p0, -⟩ := H.out.pb 0 _ rfl
  obtain ⟨p1, -⟩ := H.out.pb 1 _ rfl
  obtain ⟨r0, r1⟩ := flatI_get l i hi
  have q0 := (H.out.ol.cellAt (i * 2) (by omega)).trans r0
  have q1 := (H.out.ol.cellAt (i * 2 + 1) (by omega)).trans r1
  have z0 := H.out.ol.frozenAt (i * 2)
  have z1 := H.out.ol.frozenAt (i * 2 + 1)
  have s0 := (H.out.oa.cellAt u (by omega)).trans (show (p.map encI)[u]? = some (encI (p[u]'hu)) by simp [hu])
  have z2 := H.out.oa.frozenAt u
  have hi1 : (i : Int) < (l.length : Int) := by omega
  have hi0 : (0 : Int) ≤ (i : Int) := by omega
  have hu1 : (u : Int) < (p.length : Int) := by omega
  have hu0 : (0 : Int) ≤ (u : Int) := by omega
  have hga : (g = a) = False := by
    have := H.out.d3 g rfl
    simp [Value.ownBlock] at this
    simp [Ne.symm this]
  have hag : (a = g) = False := by simpa [eq_comm] using hga
  have hgw : g < w.heap.size := (h.ol.lt g rfl).2
  have haw : a < w.heap.size := (h.oa.lt a rfl).2
  have n1 : (g = w.heap.size) = False := by simp; omega
  have n2 : (w.heap.size = g) = False := by simp; omega
  have n3 : (a = w.heap.size) = False := by simp; omega
  have n4 : (w.heap.size = a) = False := by simp; omega
  have m1 : (g = b) = False := by have := h.d1; simpa [Value.ownBlock] using this
  have m2 : (b = g) = False := by simpa [eq_comm] using m1
  have m3 : (a = b) = False := by have := h.d2; simpa [Value.ownBlock] using this
  have m4 : (b = a) = False := by simpa [eq_comm] using m3
  clear h r0 r1 hgw haw
  go_enter Try.func69, Try.ntmps69
  go_upto_region 1 with (fail)
  rw [← hW]
  clear hW
  go_region
  refine bodyPost_end (results_none rfl _ _ _) rfl ?_
  refine ⟨rfl, ?_, ?_⟩
  · have := ((H.out.item i ((u : Int), k)).place u (i : Int)).dr
    rw [List.length_set, List.length_set] at this
    exact this
  · have hX : RX (Value.slice (some ⟨g, 0, none⟩) l.length cg) (Value.slice (some ⟨a, 0, none⟩) p.length ca) g := .inl rfl
    have hY : RX (Value.slice (some ⟨g, 0, none⟩) l.length cg) (Value.slice (some ⟨a, 0, none⟩) p.length ca) a := .inr rfl
    exact ((((OffX.of_below HB.out).trans (.set _ hX)).trans (.set _ hX)).trans (.set _ hY)).trans (.of_below ((Below.refl _ _).drew))

end Go.Proofs.Ytkdomobedfhhgaa
end
