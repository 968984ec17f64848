/-
  A reply in the machine's memory: its rows, which are far apart while one of them grows.
-/
import Derived.Test.YtelcmkccfjdmjaaGreatDoorProg
import Derived.Test.YtelcmkccfjdmjaaGreatDoorRpC
import Derived.Test.YtelcmkccfjdmjaaGreatDoorRpG
namespace Go.Proofs.YtelcmkccfjdmjaaGreatDoor
open Go Go.Proofs Go.RowKit Go.Shelf Go.Sort

/-- a route, and where its edges lie -/
structure RtC where
  ao : Option Addr
  cap : Nat
  r : RtD
def encC (t : RtC) : List Value := [.slice t.ao t.r.es.length t.cap, .int .u64 t.r.w]
def flatR : List RtC → List Value
  | [] => []
  | t :: l => encC t ++ flatR l
theorem flatR_append : ∀ (a b : List RtC), flatR (a ++ b) = flatR a ++ flatR b
  | [], b => rfl
  | t :: a, b => by rw [List.cons_append, flatR, flatR, flatR_append a b, List.append_assoc]
theorem flatR_snoc (ts : List RtC) (t : RtC) : flatR (ts ++ [t]) = flatR ts ++ encC t := by rw [flatR_append]; simp [flatR]
theorem flatR_length : ∀ ts : List RtC, (flatR ts).length = ts.length * 2
  | [] => rfl
  | t :: l => by rw [flatR, List.length_append, flatR_length l, List.length_cons]; simp [encC]; omega
theorem flatR_at : ∀ (ts : List RtC) (i : Nat) (h : i < ts.length), (flatR ts)[2 * i]? = some (.slice ts[i].ao ts[i].r.es.length ts[i].cap) ∧ (flatR ts)[2 * i + 1]? = some (.int .u64 ts[i].r.w)
  | t :: l, 0, _ => ⟨rfl, rfl⟩
  | t :: l, i + 1, h => by
    have := flatR_at l i (by simpa using h)
    have e1 : 2 * (i + 1) = 2 * i + 2 := by omega
    rw [e1]
    exact this

/-- a reply as a value -/
def RepV (W : World) (r : RepD) (v : Value) : Prop :=
  ∃ an cn ar cr aw cw, ∃ ts : List RtC, v = .agg #[.int .i64 r.f, .string r.name, .slice an r.nums.length cn, .slice ar r.rts.length cr, .slice aw r.words.length cw] ∧ Cel W an (r.nums.map encW) ∧ Cel W ar (flatR ts) ∧ Cel W aw (r.words.map encS) ∧
    ts.map (·.r) = r.rts ∧ ∀ t ∈ ts, Cel W t.ao (t.r.es.map encI)
theorem RepV.go {W W' : World} {r : RepD} {v : Value} (h : RepV W r v) (hb : Below W.heap.size W W') : RepV W' r v := by
  obtain ⟨an, cn, ar, cr, aw, cw, ts, h1, h2, h3, h4, h5, h6⟩ := h
  exact ⟨an, cn, ar, cr, aw, cw, ts, h1, h2.go hb, h3.go hb, h4.go hb, h5, fun t ht => (h6 t ht).go hb⟩

/-- two rows in two blocks -/
def FarV (v u : Value) : Prop := ∀ k, v.ownBlock = some k → u.ownBlock ≠ some k
def FarT (v : Value) (ts : List RtC) : Prop := ∀ t ∈ ts, t.r.es ≠ [] → ∀ x, t.ao = some x → v.ownBlock ≠ some x.block
theorem FarV.symm {v u : Value} (h : FarV v u) : FarV u v := fun k hu hv => h k hv hu
theorem FarV.new {v u v' : Value} {g z : Nat} (h : FarV v u) (hv : v'.ownBlock = some g) (hat : v.ownBlock = some g ∨ g = z) (hu : ∀ k, u.ownBlock = some k → k < z) : FarV v' u := by
  intro k hk
  rw [hv] at hk
  cases hk
  rcases hat with e | e
  · exact h _ e
  · intro e2
    have := hu _ e2
    omega
theorem FarT.new {v v' : Value} {ts : List RtC} {g z : Nat} (h : FarT v ts) (hv : v'.ownBlock = some g) (hat : v.ownBlock = some g ∨ g = z) (hu : ∀ t ∈ ts, t.r.es ≠ [] → ∀ x, t.ao = some x → x.block < z) : FarT v' ts := by
  intro t ht hne x hx e
  rw [hv] at e
  rcases hat with e1 | e1
  · exact h t ht hne x hx (e1.trans e)
  · have := hu t ht hne x hx
    have e2 := Option.some.inj e
    omega
theorem FarV.nil (v : Value) : FarV v (.slice none 0 0) := fun k _ h => by cases h
theorem FarT.nil (v : Value) : FarT v [] := fun t ht => by cases ht
theorem Cel.grown {w w' : World} {row : Option Nat} {ao : Option Addr} {cs : List Value} (h : Cel w ao cs) (hg : w.grownBy w' row) (hn : cs ≠ [] → ∀ x, ao = some x → row ≠ some x.block) : Cel w' ao cs := by
  intro i u hu
  obtain ⟨b, o, e, hc⟩ := h i u hu
  refine ⟨b, o, e, hg.cell hc (fun e2 => hn (fun e3 => by rw [e3] at hu; simp at hu) _ e e2.symm)⟩
theorem Cel.put {w : World} {ao : Option Addr} {cs : List Value} (h : Cel w ao cs) {a : Addr} (u : Value) (hn : cs ≠ [] → ∀ x, ao = some x → x.block ≠ a.block) : Cel (w.setCell a u) ao cs := by
  intro i v hu
  obtain ⟨b, o, e, hc⟩ := h i v hu
  refine ⟨b, o, e, ?_⟩
  rw [World.cell?_setCell_other _ _ _ _ (fun e2 => hn (fun e3 => by rw [e3] at hu; simp at hu) _ e (by rw [e2]))]
  exact hc
theorem Cel.lt {w : World} {ao : Option Addr} {cs : List Value} (h : Cel w ao cs) (hn : cs ≠ []) : ∀ x, ao = some x → x.block < w.heap.size := by
  intro x hx
  cases cs with
  | nil => exact absurd rfl hn
  | cons c l =>
    obtain ⟨b, o, e, hc⟩ := h 0 c rfl
    rw [hx] at e
    cases e
    exact World.block_lt_of_cell? _ _ hc

structure Row3 (W : World) (base : Nat) (r : RepD) (vn vr vw : Value) (ts : List RtC) : Prop where
  on : W.ownsRow base 46 1 vn r.nums.length (r.nums.map encW)
  orr : W.ownsRow base 48 2 vr r.rts.length (flatR ts)
  ow : W.ownsRow base 9 1 vw r.words.length (r.words.map encS)
  tr : ts.map (·.r) = r.rts
  tc : ∀ t ∈ ts, Cel W t.ao (t.r.es.map encI)
  tl : ∀ t ∈ ts, t.r.es ≠ [] → ∀ x, t.ao = some x → base ≤ x.block
  nr : FarV vn vr
  nw : FarV vn vw
  rw : FarV vr vw
  tn : FarT vn ts
  tt : FarT vr ts
  tw : FarT vw ts
theorem Row3.start (W : World) (base : Nat) (f : Int) (name : ByteArray) : Row3 W base ⟨f, name, [], [], []⟩ (.slice none 0 0) (.slice none 0 0) (.slice none 0 0) [] :=
  ⟨World.ownsRow_nil _ _ _ _, World.ownsRow_nil _ _ _ _, World.ownsRow_nil _ _ _ _, rfl, (fun _ h => by cases h), (fun _ h => by cases h), FarV.nil _, FarV.nil _, FarV.nil _, FarT.nil _, FarT.nil _, FarT.nil _⟩
theorem mapI_ne {l : List Int} (h : l ≠ []) : l.map encI ≠ [] := by simpa using h
theorem Row3.tlt {W : World} {base : Nat} {r : RepD} {vn vr vw : Value} {ts : List RtC} (h : Row3 W base r vn vr vw ts) : ∀ t ∈ ts, t.r.es ≠ [] → ∀ x, t.ao = some x → x.block < W.heap.size :=
  fun t ht hne x hx => (h.tc t ht).lt (mapI_ne hne) x hx
theorem Row3.go {W W' : World} {base : Nat} {r : RepD} {vn vr vw : Value} {ts : List RtC} (h : Row3 W base r vn vr vw ts) (hb : Below W.heap.size W W') : Row3 W' base r vn vr vw ts :=
  ⟨rt_owns_go h.on hb, rt_owns_go h.orr hb, rt_owns_go h.ow hb, h.tr, fun t ht => (h.tc t ht).go hb, h.tl, h.nr, h.nw, h.rw, h.tn, h.tt, h.tw⟩
theorem Row3.put {W : World} {base : Nat} {r : RepD} {vn vr vw : Value} {ts : List RtC} (h : Row3 W base r vn vr vw ts) {a : Addr} (ha : a.block < base) (u : Value) : Row3 (W.setCell a u) base r vn vr vw ts :=
  ⟨ownsRow_setCell_below h.on ha u, ownsRow_setCell_below h.orr ha u, ownsRow_setCell_below h.ow ha u, h.tr, fun t ht => (h.tc t ht).put u (fun hne x hx => by
    have := h.tl t ht (by simpa using hne) x hx
    omega), h.tl, h.nr, h.nw, h.rw, h.tn, h.tt, h.tw⟩
theorem Row3.num {W W' : World} {base : Nat} {r : RepD} {vn vr vw : Value} {ts : List RtC} (h : Row3 W base r vn vr vw ts) {x : Int} {g cap : Nat} (ho : W'.ownsRow base 46 1 (.slice (some ⟨g, 0, none⟩) (r.nums.length + 1) cap) (r.nums.length + 1) (r.nums.map encW ++ [.int .u64 x]))
    (hg : W.grownBy W' vn.ownBlock) (hat : vn.ownBlock = some g ∨ g = W.heap.size) : Row3 W' base { r with nums := r.nums ++ [x] } (.slice (some ⟨g, 0, none⟩) (r.nums.length + 1) cap) vr vw ts := by
  refine ⟨?_, h.orr.kept hg ?_, h.ow.kept hg ?_, h.tr, fun t ht => (h.tc t ht).grown hg (fun hne x hx => h.tn t ht (by simpa using hne) x hx), h.tl, h.nr.new rfl hat (fun k hk => (h.orr.lt k hk).2), h.nw.new rfl hat (fun k hk => (h.ow.lt k hk).2), h.rw, h.tn.new rfl hat h.tlt, h.tt, h.tw⟩
  · simpa using ho
  · cases hv : vr.ownBlock with
    | none => exact .inl rfl
    | some k => exact .inr (fun e => h.nr k e.symm hv)
  · cases hv : vw.ownBlock with
    | none => exact .inl rfl
    | some k => exact .inr (fun e => h.nw k e.symm hv)
theorem Row3.word {W W' : World} {base : Nat} {r : RepD} {vn vr vw : Value} {ts : List RtC} (h : Row3 W base r vn vr vw ts) {x : ByteArray} {g cap : Nat} (ho : W'.ownsRow base 9 1 (.slice (some ⟨g, 0, none⟩) (r.words.length + 1) cap) (r.words.length + 1) (r.words.map encS ++ [.string x]))
    (hg : W.grownBy W' vw.ownBlock) (hat : vw.ownBlock = some g ∨ g = W.heap.size) : Row3 W' base { r with words := r.words ++ [x] } vn vr (.slice (some ⟨g, 0, none⟩) (r.words.length + 1) cap) ts := by
  refine ⟨h.on.kept hg ?_, h.orr.kept hg ?_, ?_, h.tr, fun t ht => (h.tc t ht).grown hg (fun hne x hx => h.tw t ht (by simpa using hne) x hx), h.tl, h.nr, (h.nw.symm.new rfl hat (fun k hk => (h.on.lt k hk).2)).symm, (h.rw.symm.new rfl hat (fun k hk => (h.orr.lt k hk).2)).symm, h.tn, h.tt, h.tw.new rfl hat h.tlt⟩
  · cases hv : vn.ownBlock with
    | none => exact .inl rfl
    | some k => exact .inr (fun e => h.nw k hv e.symm)
  · cases hv : vr.ownBlock with
    | none => exact .inl rfl
    | some k => exact .inr (fun e => h.rw k hv e.symm)
  · simpa using ho
theorem Row3.route {W W' : World} {base : Nat} {r : RepD} {vn vr vw : Value} {ts : List RtC} (h : Row3 W base r vn vr vw ts) {t : RtC} {g cap : Nat} (ho : W'.ownsRow base 48 2 (.slice (some ⟨g, 0, none⟩) (r.rts.length + 1) cap) (r.rts.length + 1) (flatR ts ++ encC t))
    (hg : W.grownBy W' vr.ownBlock) (hat : vr.ownBlock = some g ∨ g = W.heap.size) (hc : Cel W t.ao (t.r.es.map encI)) (hl : ∀ x, t.ao = some x → base ≤ x.block) (f1 : ∀ x, t.ao = some x → vn.ownBlock ≠ some x.block) (f2 : ∀ x, t.ao = some x → vr.ownBlock ≠ some x.block) (f3 : ∀ x, t.ao = some x → vw.ownBlock ≠ some x.block) :
    Row3 W' base { r with rts := r.rts ++ [t.r] } vn (.slice (some ⟨g, 0, none⟩) (r.rts.length + 1) cap) vw (ts ++ [t]) := by
  have ins : ∀ {v : Value}, FarT v ts → (∀ x, t.ao = some x → v.ownBlock ≠ some x.block) → FarT v (ts ++ [t]) := by
    intro v h1 h2 u hu hne x hx
    rcases List.mem_append.1 hu with hu | hu
    · exact h1 u hu hne x hx
    · rw [List.mem_singleton] at hu
      subst hu
      exact h2 x hx
  have hlt : ∀ u ∈ ts ++ [t], u.r.es ≠ [] → ∀ x, u.ao = some x → x.block < W.heap.size := by
    intro u hu hne x hx
    rcases List.mem_append.1 hu with hu | hu
    · exact h.tlt u hu hne x hx
    · rw [List.mem_singleton] at hu
      subst hu
      exact hc.lt (mapI_ne hne) x hx
  refine ⟨h.on.kept hg ?_, ?_, h.ow.kept hg ?_, by rw [List.map_append, h.tr]; rfl, ?_, ?_, (h.nr.symm.new rfl hat (fun k hk => (h.on.lt k hk).2)).symm, h.nw, h.rw.new rfl hat (fun k hk => (h.ow.lt k hk).2), ins h.tn f1, (ins h.tt f2).new rfl hat hlt, ins h.tw f3⟩
  · cases hv : vn.ownBlock with
    | none => exact .inl rfl
    | some k => exact .inr (fun e => h.nr k hv e.symm)
  · rw [flatR_snoc]
    simpa using ho
  · cases hv : vw.ownBlock with
    | none => exact .inl rfl
    | some k => exact .inr (fun e => h.rw k e.symm hv)
  · intro u hu
    rcases List.mem_append.1 hu with hu | hu
    · exact (h.tc u hu).grown hg (fun hne x hx => h.tt u hu (by simpa using hne) x hx)
    · rw [List.mem_singleton] at hu
      subst hu
      exact hc.grown hg (fun _ x hx => f2 x hx)
  · intro u hu hne x hx
    rcases List.mem_append.1 hu with hu | hu
    · exact h.tl u hu hne x hx
    · rw [List.mem_singleton] at hu
      subst hu
      exact hl x hx
theorem Row3.rep {W : World} {base : Nat} {r : RepD} {vn vr vw : Value} {ts : List RtC} (h : Row3 W base r vn vr vw ts) : RepV W r (.agg #[.int .i64 r.f, .string r.name, vn, vr, vw]) := by
  obtain ⟨an, cn, rfl, h1⟩ := Cel.of_owns h.on
  obtain ⟨ar, cr, rfl, h2⟩ := Cel.of_owns h.orr
  obtain ⟨aw, cw, rfl, h3⟩ := Cel.of_owns h.ow
  exact ⟨an, cn, ar, cr, aw, cw, ts, rfl, h1, h2, h3, h.tr, h.tc⟩
/-- the rows' shapes -/
theorem Row3.shapes {W : World} {base : Nat} {r : RepD} {vn vr vw : Value} {ts : List RtC} (h : Row3 W base r vn vr vw ts) : (∃ ao cap, vn = .slice ao r.nums.length cap) ∧ (∃ ao cap, vr = .slice ao r.rts.length cap) ∧ (∃ ao cap, vw = .slice ao r.words.length cap) := by
  obtain ⟨an, cn, e1, -⟩ := Cel.of_owns h.on
  obtain ⟨ar, cr, e2, -⟩ := Cel.of_owns h.orr
  obtain ⟨aw, cw, e3, -⟩ := Cel.of_owns h.ow
  exact ⟨⟨an, cn, e1⟩, ⟨ar, cr, e2⟩, ⟨aw, cw, e3⟩⟩

/-- a block of five cells -/
def P5 (W : World) (b : Nat) (x0 x1 x2 x3 x4 : Value) : Prop :=
  W.cell? ⟨b, 0, none⟩ = some x0 ∧ W.cell? ⟨b, 1, none⟩ = some x1 ∧ W.cell? ⟨b, 2, none⟩ = some x2 ∧ W.cell? ⟨b, 3, none⟩ = some x3 ∧ W.cell? ⟨b, 4, none⟩ = some x4 ∧
    W.frozen? ⟨b, 0, none⟩ = false ∧ W.frozen? ⟨b, 1, none⟩ = false ∧ W.frozen? ⟨b, 2, none⟩ = false ∧ W.frozen? ⟨b, 3, none⟩ = false ∧ W.frozen? ⟨b, 4, none⟩ = false
theorem P5.new (w : World) (T : TypeId) (x0 x1 x2 x3 x4 : Value) : P5 (w.alloc (.cells #[x0, x1, x2, x3, x4] T)) w.heap.size x0 x1 x2 x3 x4 := ⟨by go_simp, by go_simp, by go_simp, by go_simp, by go_simp, by go_simp, by go_simp, by go_simp, by go_simp, by go_simp⟩
theorem P5.lt {W : World} {b : Nat} {x0 x1 x2 x3 x4 : Value} (h : P5 W b x0 x1 x2 x3 x4) : b < W.heap.size := World.block_lt_of_cell? _ _ h.1
theorem P5.eq {W W' : World} {b : Nat} {x0 x1 x2 x3 x4 : Value} (h : P5 W b x0 x1 x2 x3 x4) (he : W'.heap[b]? = W.heap[b]?) : P5 W' b x0 x1 x2 x3 x4 := by
  have c : ∀ j, W'.cell? ⟨b, j, none⟩ = W.cell? ⟨b, j, none⟩ := fun j => World.cell?_of_block (a := ⟨b, j, none⟩) he
  have f : ∀ j, W'.frozen? ⟨b, j, none⟩ = W.frozen? ⟨b, j, none⟩ := fun j => World.frozen?_of_block (a := ⟨b, j, none⟩) he
  unfold P5 at *
  simp only [c, f]
  exact h
theorem P5.go {W W' : World} {b : Nat} {x0 x1 x2 x3 x4 : Value} (h : P5 W b x0 x1 x2 x3 x4) (hb : Below W.heap.size W W') : P5 W' b x0 x1 x2 x3 x4 := h.eq (hb.block b h.lt)
theorem P5.setAt {W : World} {b c j : Nat} {x0 x1 x2 x3 x4 : Value} (h : P5 W b x0 x1 x2 x3 x4) (hn : c ≠ b) (u : Value) : P5 (W.setCell ⟨c, j, none⟩ u) b x0 x1 x2 x3 x4 := h.eq (Below.heap_setCell _ _ _ _ (Ne.symm hn))
theorem P5.set2 {W : World} {b : Nat} {x0 x1 x2 x3 x4 : Value} (h : P5 W b x0 x1 x2 x3 x4) (u : Value) : P5 (W.setCell ⟨b, 2, none⟩ u) b x0 x1 u x3 x4 := by
  obtain ⟨h0, h1, h2, h3, h4, h5⟩ := h
  refine ⟨?_, ?_, World.cell?_setCell_same _ _ _ h2, ?_, ?_, by simpa only [World.frozen?_setCell] using h5⟩ <;> (rw [World.cell?_setCell_other _ _ _ _ (by simp)]; assumption)
theorem P5.set3 {W : World} {b : Nat} {x0 x1 x2 x3 x4 : Value} (h : P5 W b x0 x1 x2 x3 x4) (u : Value) : P5 (W.setCell ⟨b, 3, none⟩ u) b x0 x1 x2 u x4 := by
  obtain ⟨h0, h1, h2, h3, h4, h5⟩ := h
  refine ⟨?_, ?_, ?_, World.cell?_setCell_same _ _ _ h3, ?_, by simpa only [World.frozen?_setCell] using h5⟩ <;> (rw [World.cell?_setCell_other _ _ _ _ (by simp)]; assumption)
theorem P5.set4 {W : World} {b : Nat} {x0 x1 x2 x3 x4 : Value} (h : P5 W b x0 x1 x2 x3 x4) (u : Value) : P5 (W.setCell ⟨b, 4, none⟩ u) b x0 x1 x2 x3 u := by
  obtain ⟨h0, h1, h2, h3, h4, h5⟩ := h
  refine ⟨?_, ?_, ?_, ?_, World.cell?_setCell_same _ _ _ h4, by simpa only [World.frozen?_setCell] using h5⟩ <;> (rw [World.cell?_setCell_other _ _ _ _ (by simp)]; assumption)

end Go.Proofs.YtelcmkccfjdmjaaGreatDoor
