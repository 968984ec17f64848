/-
  Walks of the reference of package gtext: which number may be, and where it goes.
-/
import Derived.Test.YtelcmkccfjdmjaaGreatDoorProg
import Derived.Test.YtelcmkccfjdmjaaGreatDoorGpSpec
import Derived.Deep.RegionLaw
namespace Go.Proofs.YtelcmkccfjdmjaaGreatDoor
open Go.Proofs Go.RowKit Go.Shelf

abbrev gObj (gn : Int) (v : Value) : Obj := .cells #[.int .i64 gn, v] 53

theorem mayK_zero (gn fr x : Int) : mayK gn 0 fr x = withinF 1 4096 2 x := by unfold mayK; simp
theorem mayK_one (gn fr x : Int) : mayK gn 1 fr x = withinF 0 16384 5 x := by unfold mayK; simp
theorem rem_k {k : Nat} (h : 2 ≤ k) : Int.tmod ((k : Int) - 2) 3 = (((k - 2) % 3 : Nat) : Int) := by
  rw [Int.tmod_eq_emod_of_nonneg (by omega)]
  omega

set_option maxHeartbeats 1000000 in
theorem refKRight_any (gn : Int) (ao : Option Addr) (n cap k : Nat) (fr x : Int) (w : World) (hk : k ≤ 140737488355328) (hg : 0 ≤ gn ∧ gn ≤ 4096) (hfr : 2 ≤ k → (k - 2) % 3 = 1 → 0 ≤ fr ∧ fr ≤ 4096) (hx : 0 ≤ x ∧ x < 18446744073709551616) :
    Calls Tryz.prog 184 #[.agg #[.int .i64 gn, .slice ao n cap], .int .i64 k, .int .i64 fr, .int .u64 x] w fun e w' => e = .returned (.int .i64 (mayK gn k fr x)) ∧ w' = w.alloc (gObj gn (.slice ao n cap)) := by
  have HX := Lib.hid hx
  by_cases h0 : k = 0
  · subst h0
    rw [mayK_zero]
    clear hfr hk
    by_cases c1 : x < 1
    · have HM := Lib.hid (show withinF 1 4096 2 x = 2 from if_pos (.inl c1))
      generalize withinF 1 4096 2 x = r at *
      go_enter Tryz.func184, Tryz.ntmps184
      go_wp2
      go_ret
      exact ⟨by rw [HM.out]; rfl, rfl⟩
    · by_cases c2 : x > 4096
      · have HM := Lib.hid (show withinF 1 4096 2 x = 2 from if_pos (.inr c2))
        generalize withinF 1 4096 2 x = r at *
        go_enter Tryz.func184, Tryz.ntmps184
        go_wp2
        go_ret
        exact ⟨by rw [HM.out]; rfl, rfl⟩
      · have HM := Lib.hid (show withinF 1 4096 2 x = 0 from if_neg (by omega))
        generalize withinF 1 4096 2 x = r at *
        go_enter Tryz.func184, Tryz.ntmps184
        go_wp2
        go_ret
        exact ⟨by rw [HM.out]; rfl, rfl⟩
  · by_cases h1 : k = 1
    · subst h1
      rw [mayK_one]
      clear hfr hk h0
      by_cases c2 : x > 16384
      · have HM := Lib.hid (show withinF 0 16384 5 x = 5 from if_pos (.inr c2))
        generalize withinF 0 16384 5 x = r at *
        go_enter Tryz.func184, Tryz.ntmps184
        go_wp2
        go_ret
        exact ⟨by rw [HM.out]; rfl, rfl⟩
      · have HM := Lib.hid (show withinF 0 16384 5 x = 0 from if_neg (by have := HX.out; omega))
        generalize withinF 0 16384 5 x = r at *
        go_enter Tryz.func184, Tryz.ntmps184
        go_wp2
        go_ret
        exact ⟨by rw [HM.out]; rfl, rfl⟩
    · have b0 : ((k : Int) == 0) = false := by simp; omega
      have b1 : ((k : Int) == 1) = false := by simp; omega
      have h2 : 2 ≤ k := by omega
      have hkw : IntKind.i64.wrap ((k : Int) - 2) = (k : Int) - 2 := IntWalk.i64_in _ (by omega)
      have hrem := rem_k h2
      have hgw : IntKind.u64.wrap gn = gn := IntWalk.u64_in _ (by omega)
      have HF := Lib.hid (hfr h2)
      have HR := Lib.hid (fun h => @mayK_w gn fr x k h2 h)
      have HF1 := Lib.hid (fun h => @mayK_f gn fr x k h2 h)
      have HT := Lib.hid (fun h => @mayK_t gn fr x k h2 h)
      have h3 : (k - 2) % 3 = 0 ∨ (k - 2) % 3 = 1 ∨ (k - 2) % 3 = 2 := by omega
      generalize mayK gn k fr x = r at *
      generalize (k - 2) % 3 = m at *
      clear hfr h0 h1
      rcases h3 with rfl | rfl | rfl
      · clear HF
        by_cases c : gn ≤ x
        · have HM := Lib.hid ((HF1.out rfl).trans (if_pos c))
          clear HR HF1 HT
          go_enter Tryz.func184, Tryz.ntmps184
          go_wp2
          go_ret
          exact ⟨by rw [HM.out]; rfl, rfl⟩
        · have HM := Lib.hid ((HF1.out rfl).trans (if_neg c))
          clear HR HF1 HT
          go_enter Tryz.func184, Tryz.ntmps184
          go_wp2
          go_ret
          exact ⟨by rw [HM.out]; rfl, rfl⟩
      · have hf := HF.out rfl
        have hfw : IntKind.u64.wrap fr = fr := IntWalk.u64_in _ (by omega)
        clear HF
        by_cases c : gn ≤ x
        · have HM := Lib.hid ((HT.out rfl).trans (if_pos (.inl c)))
          clear HR HF1 HT
          go_enter Tryz.func184, Tryz.ntmps184
          go_wp2
          go_ret
          exact ⟨by rw [HM.out]; rfl, rfl⟩
        · by_cases c2 : x = fr
          · have c3 : (x == fr) = true := by simpa using c2
            have HM := Lib.hid ((HT.out rfl).trans (if_pos (.inr c2)))
            clear HR HF1 HT c2
            go_enter Tryz.func184, Tryz.ntmps184
            go_wp2
            go_ret
            exact ⟨by rw [HM.out]; rfl, rfl⟩
          · have c3 : (x == fr) = false := by simpa using c2
            have HM := Lib.hid ((HT.out rfl).trans (if_neg (fun h => h.elim c c2)))
            clear HR HF1 HT c2
            go_enter Tryz.func184, Tryz.ntmps184
            go_wp2
            go_ret
            exact ⟨by rw [HM.out]; rfl, rfl⟩
      · clear HF
        by_cases c1 : x < 1
        · have HM := Lib.hid ((HR.out rfl).trans (if_pos (.inl c1)))
          clear HR HF1 HT
          go_enter Tryz.func184, Tryz.ntmps184
          go_wp2
          go_ret
          exact ⟨by rw [HM.out]; rfl, rfl⟩
        · by_cases c2 : x > 4294967296
          · have HM := Lib.hid ((HR.out rfl).trans (if_pos (.inr c2)))
            clear HR HF1 HT
            go_enter Tryz.func184, Tryz.ntmps184
            go_wp2
            go_ret
            exact ⟨by rw [HM.out]; rfl, rfl⟩
          · have HM := Lib.hid ((HR.out rfl).trans (if_neg (by omega)))
            clear HR HF1 HT
            go_enter Tryz.func184, Tryz.ntmps184
            go_wp2
            go_ret
            exact ⟨by rw [HM.out]; rfl, rfl⟩

theorem elem_edge : Elem Tryz.prog 149 (.agg #[.int .i64 0, .int .i64 0, .int .u64 0]) 3 24 := ⟨by kernel_rfl, rfl, by decide⟩

/-- two cells that may be written -/
def C2 (W : World) (b : Nat) (x y : Value) : Prop := W.cell? ⟨b, 0, none⟩ = some x ∧ W.cell? ⟨b, 1, none⟩ = some y ∧ W.frozen? ⟨b, 0, none⟩ = false ∧ W.frozen? ⟨b, 1, none⟩ = false
theorem C2.new (w : World) (T : TypeId) (x y : Value) : C2 (w.alloc (.cells #[x, y] T)) w.heap.size x y := ⟨by go_simp, by go_simp, by go_simp, by go_simp⟩
theorem C2.newAt (w : World) (T : TypeId) (x y : Value) {g : Nat} (hg : w.heap.size = g) : C2 (w.alloc (.cells #[x, y] T)) g x y := by subst hg; exact C2.new w T x y
theorem C2.lt {W : World} {b : Nat} {x y : Value} (h : C2 W b x y) : b < W.heap.size := World.block_lt_of_cell? _ _ h.1
theorem C2.go {W W' : World} {b : Nat} {x y : Value} (h : C2 W b x y) (hb : Below W.heap.size W W') : C2 W' b x y :=
  ⟨cell_later hb h.1, cell_later hb h.2.1, (hb.frozen h.lt).trans h.2.2.1, (hb.frozen h.lt).trans h.2.2.2⟩
theorem C2.below {W W' : World} {b B : Nat} {x y : Value} (h : C2 W b x y) (hb : Below B W W') (hl : b < B) : C2 W' b x y :=
  ⟨(hb.cell (by exact hl)).trans h.1, (hb.cell (by exact hl)).trans h.2.1, (hb.frozen (by exact hl)).trans h.2.2.1, (hb.frozen (by exact hl)).trans h.2.2.2⟩
theorem C2.grown {W W' : World} {b : Nat} {x y : Value} {row : Option Nat} (h : C2 W b x y) (hg : W.grownBy W' row) (hn : some b ≠ row) : C2 W' b x y :=
  have e := hg.block b h.lt hn
  ⟨hg.cell h.1 hn, hg.cell h.2.1 hn, (World.frozen?_of_block (a := ⟨b, 0, none⟩) e).trans h.2.2.1, (World.frozen?_of_block (a := ⟨b, 1, none⟩) e).trans h.2.2.2⟩
theorem C2.set0 {W : World} {b : Nat} {x y : Value} (h : C2 W b x y) (u : Value) : C2 (W.setCell ⟨b, 0, none⟩ u) b u y := by
  obtain ⟨h0, h1, f0, f1⟩ := h
  refine ⟨World.cell?_setCell_same _ _ _ h0, ?_, ?_, ?_⟩
  · rw [World.cell?_setCell_other _ _ _ _ (by simp)]; exact h1
  all_goals (rw [World.frozen?_setCell]; assumption)
theorem C2.set1 {W : World} {b : Nat} {x y : Value} (h : C2 W b x y) (u : Value) : C2 (W.setCell ⟨b, 1, none⟩ u) b x u := by
  obtain ⟨h0, h1, f0, f1⟩ := h
  refine ⟨?_, World.cell?_setCell_same _ _ _ h1, ?_, ?_⟩
  · rw [World.cell?_setCell_other _ _ _ _ (by simp)]; exact h0
  all_goals (rw [World.frozen?_setCell]; assumption)
theorem C2.setAt {W : World} {b : Nat} {x y : Value} (h : C2 W b x y) (a : Addr) (hn : a.block ≠ b) (u : Value) : C2 (W.setCell a u) b x y := by
  obtain ⟨h0, h1, f0, f1⟩ := h
  refine ⟨?_, ?_, ?_, ?_⟩
  · rw [World.cell?_setCell_other _ _ _ _ (by rintro rfl; exact hn rfl)]; exact h0
  · rw [World.cell?_setCell_other _ _ _ _ (by rintro rfl; exact hn rfl)]; exact h1
  all_goals (rw [World.frozen?_setCell]; assumption)
theorem grown_trans {a b c : World} {row : Option Nat} (h : a.grownBy b row) (k : b.grownBy c row) : a.grownBy c row :=
  ⟨k.os.trans h.os, k.tape.trans h.tape, k.output.trans h.output, Nat.le_trans h.size k.size, fun i hi hn => (k.block i (by have := h.size; omega) hn).trans (h.block i hi hn)⟩
theorem grown_below {a b : World} (row : Option Nat) (h : Below a.heap.size a b) : a.grownBy b row := ⟨h.os, h.tape, h.output, h.size, fun k hk _ => h.block k hk⟩
/-- what has come anew may be written -/
theorem grown_new {a b c : World} {row row2 : Option Nat} (h : a.grownBy b row) (k : b.grownBy c row2) (hn : ∀ i, row2 = some i → row = some i ∨ a.heap.size ≤ i) : a.grownBy c row :=
  ⟨k.os.trans h.os, k.tape.trans h.tape, k.output.trans h.output, Nat.le_trans h.size k.size, fun i hi hr => (k.block i (by have := h.size; omega) (fun e => by
    rcases hn i e.symm with h' | h'
    · exact hr h'.symm
    · omega)).trans (h.block i hi hr)⟩
theorem grown_set {a : World} (b j : Nat) (u : Value) : a.grownBy (a.setCell ⟨b, j, none⟩ u) (some b) :=
  ⟨rfl, rfl, rfl, by simp [World.setCell], fun k _ hk => heap_setCell_other a ⟨b, j, none⟩ k u (fun e => hk (by simp [e]))⟩
theorem grown_setNew {a b : World} {row : Option Nat} (h : a.grownBy b row) {p : Addr} (hp : a.heap.size ≤ p.block) (u : Value) : a.grownBy (b.setCell p u) row :=
  ⟨h.os, h.tape, h.output, by have := h.size; simpa [World.setCell] using this, fun k hk hr => (heap_setCell_other b p k u (by omega)).trans (h.block k hk hr)⟩
theorem owns_setNew {w : World} {base : Nat} {e : TypeId} {size n : Nat} {v : Value} {xs : List Value} (h : w.ownsRow base e size v n xs) {p : Addr} (hp : v.ownBlock ≠ some p.block) (u : Value) : (w.setCell p u).ownsRow base e size v n xs := by
  refine ⟨h.1, ?_⟩
  rcases h.2 with h2 | ⟨g, cap, cur, hv, hbg, hg, r⟩
  · exact .inl h2
  · refine .inr ⟨g, cap, cur, hv, hbg, ?_, r⟩
    subst hv
    rw [heap_setCell_other w p g u (fun e => hp (by simp [Value.ownBlock, e]))]
    exact hg

/-- what take leaves -/
def TakePost (w : World) (base : Nat) (v : Value) (n : Int) (es : List EdgeD) (e : Ending) (w' : World) : Prop :=
  ∃ v', e = .returned (.agg #[.int .i64 n, v']) ∧ w'.ownsRow base 149 3 v' es.length (flat es) ∧ w.grownBy w' v.ownBlock ∧ ∀ b, v'.ownBlock = some b → v.ownBlock = some b ∨ w.heap.size ≤ b

theorem flat_set_t (es : List EdgeD) (i : Nat) (h : i < es.length) (x : Int) : (flat es).set (i * 3 + 1) (.int .i64 x) = flat (es.set i ⟨es[i].f, x, es[i].w⟩) := by
  induction es generalizing i with
  | nil => simp at h
  | cons e r ih =>
    cases i with
    | zero => rfl
    | succ i =>
      have e1 : (i + 1) * 3 + 1 = (i * 3 + 1) + 1 + 1 + 1 := by omega
      simp only [e1, flat, List.set_cons_succ, List.getElem_cons_succ, ih i (by simpa using h)]
theorem flat_set_w (es : List EdgeD) (i : Nat) (h : i < es.length) (x : Int) : (flat es).set (i * 3 + 2) (.int .u64 x) = flat (es.set i ⟨es[i].f, es[i].t, x⟩) := by
  induction es generalizing i with
  | nil => simp at h
  | cons e r ih =>
    cases i with
    | zero => rfl
    | succ i =>
      have e1 : (i + 1) * 3 + 2 = (i * 3 + 2) + 1 + 1 + 1 := by omega
      simp only [e1, flat, List.set_cons_succ, List.getElem_cons_succ, ih i (by simpa using h)]

theorem three_cells (x y z : Value) (w : World) (T : TypeId) {g : Nat} (hg : w.heap.size = g) : ∀ j u, [x, y, z][j]? = some u → (w.alloc (.cells #[x, y, z] T)).cell? ((⟨g, 0, none⟩ : Addr).add j) = some u := by
  intro j u hu
  subst hg
  rw [Addr.add_lit]
  have := World.cell?_alloc_mark w #[x, y, z] T (0, 0) (0 + j)
  rw [this]
  simpa using hu

set_option maxHeartbeats 1000000 in
theorem refTake_any (es : List EdgeD) (gn : Int) (v : Value) (k base : Nat) (x : Int) (w : World) (hown : w.ownsRow base 149 3 v es.length (flat es)) (hb : base ≤ w.heap.size) (hk : k ≤ 140737488355328)
    (hne : 2 ≤ k → (k - 2) % 3 ≠ 0 → es ≠ []) (hx : 0 ≤ x ∧ x ≤ 4294967296) (hl : es.length ≤ 1000000) :
    Calls Tryz.prog 185 #[.agg #[.int .i64 gn, v], .int .i64 k, .int .u64 x] w (TakePost w base v (takeN k x gn) (takeEs k x es)) := by
  obtain ⟨ao, cap, rfl, -⟩ := Cel.of_owns hown
  have HO := Lib.hid hown
  have HL := Lib.hid hown.lt
  clear hown
  have hxw : IntKind.i64.wrap x = x := IntWalk.i64_in _ (by omega)
  by_cases h0 : k = 0
  · subst h0
    have hE : takeEs 0 x es = es := by unfold takeEs; rw [if_pos (by decide)]
    have hN : takeN 0 x gn = x := rfl
    rw [hE, hN]
    clear hE hN hne
    go_enter Tryz.func185, Tryz.ntmps185
    go_wp2
    have HF := C2.newAt (w.alloc (gObj x (.slice ao es.length cap))) 53 (.int .i64 x) (.slice ao es.length cap) (show _ = w.heap.size + 1 by simp)
    obtain ⟨r0, r1, -, -⟩ := HF
    refine bodyPost_ret (by simp [results, Tryz.results185, go_sem, r0, r1]; try rfl) rfl ?_
    exact ⟨_, rfl, (HO.out.alloc _).alloc _, grown_below _ ((Below.of_al _ _).al _), fun _ h => .inl h⟩
  · have hN : takeN k x gn = gn := if_neg h0
    rw [hN]
    have b0 : ((k : Int) == 0) = false := by simp; omega
    by_cases h1 : k = 1
    · subst h1
      have hE : takeEs 1 x es = es := by unfold takeEs; rw [if_pos (by decide)]
      rw [hE]
      clear hE hN hne h0
      go_enter Tryz.func185, Tryz.ntmps185
      go_wp2
      have HF := C2.newAt (w.alloc (gObj gn (.slice ao es.length cap))) 53 (.int .i64 gn) (.slice ao es.length cap) (show _ = w.heap.size + 1 by simp)
      obtain ⟨r0, r1, -, -⟩ := HF
      refine bodyPost_ret (by simp [results, Tryz.results185, go_sem, r0, r1]; try rfl) rfl ?_
      exact ⟨_, rfl, (HO.out.alloc _).alloc _, grown_below _ ((Below.of_al _ _).al _), fun _ h => .inl h⟩
    · have b1 : ((k : Int) == 1) = false := by simp; omega
      have h2 : 2 ≤ k := by omega
      have hkw : IntKind.i64.wrap ((k : Int) - 2) = (k : Int) - 2 := IntWalk.i64_in _ (by omega)
      have hrem := rem_k h2
      have HNE := Lib.hid (hne h2)
      have h3 : (k - 2) % 3 = 0 ∨ (k - 2) % 3 = 1 ∨ (k - 2) % 3 = 2 := by omega
      have HT0 := Lib.hid (show (k - 2) % 3 = 0 → takeEs k x es = es ++ [⟨x, 0, 0⟩] by intro h; unfold takeEs; rw [if_neg (by omega), if_pos h])
      have HT1 := Lib.hid (show (k - 2) % 3 = 1 → takeEs k x es = es.set (es.length - 1) ⟨(es.getD (es.length - 1) edZ).f, x, (es.getD (es.length - 1) edZ).w⟩ by intro h; unfold takeEs; rw [if_neg (by omega), if_neg (by omega), if_pos h])
      have HT2 := Lib.hid (show (k - 2) % 3 = 2 → takeEs k x es = es.set (es.length - 1) ⟨(es.getD (es.length - 1) edZ).f, (es.getD (es.length - 1) edZ).t, x⟩ by intro h; unfold takeEs; rw [if_neg (by omega), if_neg (by omega), if_neg (by omega)])
      generalize takeEs k x es = es2 at *
      generalize (k - 2) % 3 = m at *
      clear hne h0 h1 h2 hN
      rcases h3 with rfl | rfl | rfl
      · have HE := Lib.hid (HT0.out rfl)
        clear HT0 HT1 HT2 HNE
        go_enter Tryz.func185, Tryz.ntmps185
        go_wp2_with (at_builtin; go_must ((with_reducible refine wpList_app base 149 _ 3 24 elem_edge Tryz.underlying51 (.slice ao es.length cap) es.length _ ⟨w.heap.size + 1 + 1, 0, none⟩ 1 1 [.int .i64 x, .int .i64 0, .int .u64 0] ?_ ?_ (((HO.out.alloc _).alloc _).alloc _) (three_cells _ _ _ _ _ (by simp)) ?_ ?_ ?_); (· rfl); (· rfl); (· intro u hu; simp at hu; rcases hu with rfl | rfl | rfl <;> rfl); (· exact ⟨rfl, by decide, by omega, by omega, by simp; omega⟩); intro g6 cap6 w6 hown hgrow hbl hat hlt; (have HG6 := Lib.hid ((((C2.new w 53 (.int .i64 gn) (.slice ao es.length cap)).go (Below.of_al _ _)).go (Below.of_al _ _)).grown hgrow (fun e => by have := (HL.out _ e.symm).2; omega)); have HR6 := Lib.hid (((C2.newAt (w.alloc (gObj gn (.slice ao es.length cap))) 53 (.int .i64 0) (.slice none 0 0) (show _ = w.heap.size + 1 by simp)).go (Below.of_al _ _)).grown hgrow (fun e => by have := (HL.out _ e.symm).2; omega)); have HW6 := Lib.hid (grown_trans (grown_below _ (((Below.of_al w (gObj gn (.slice ao es.length cap))).al (gObj 0 (.slice none 0 0))).al (.cells #[.int .i64 x, .int .i64 0, .int .u64 0] 149))) hgrow); have HO6 := Lib.hid hown; have HFR := Lib.hid (show (Value.slice ao es.length cap).ownBlock = some g6 ∨ w.heap.size ≤ g6 by rcases hat with e | e; (· exact .inl e); (· simp at e; exact .inr (by omega))); have HAT := Lib.hid (show g6 ≠ w.heap.size ∧ g6 ≠ w.heap.size + 1 by rcases hat with e | e; (· have := (HL.out _ e).2; omega); (· simp at e; omega)); clear hown hgrow hbl hat; obtain ⟨c0, c1, y0, y1⟩ := HG6.out; obtain ⟨q0, q1, z0, z1⟩ := HR6.out)))
        have HF := ((HR6.out.setAt ⟨w.heap.size, 1, none⟩ (by simp) (.slice (some ⟨g6, 0, none⟩) (es.length + 1) cap6)).set0 (.int .i64 gn)).set1 (.slice (some ⟨g6, 0, none⟩) (es.length + 1) cap6)
        obtain ⟨r0, r1, -, -⟩ := HF
        refine bodyPost_ret (by simp [results, Tryz.results185, go_sem, r0, r1]; try rfl) rfl ?_
        refine ⟨_, rfl, ?_, grown_setNew (grown_setNew (grown_setNew HW6.out (Nat.le_refl _) _) (Nat.le_succ _) _) (Nat.le_succ _) _, fun b h => by cases h; exact HFR.out⟩
        have h := owns_setNew (owns_setNew (owns_setNew HO6.out (p := ⟨w.heap.size, 1, none⟩) (by simp [Value.ownBlock]; exact HAT.out.1) (.slice (some ⟨g6, 0, none⟩) (es.length + 1) cap6)) (p := ⟨w.heap.size + 1, 0, none⟩) (by simp [Value.ownBlock]; exact HAT.out.2) (.int .i64 gn)) (p := ⟨w.heap.size + 1, 1, none⟩) (by simp [Value.ownBlock]; exact HAT.out.2) (.slice (some ⟨g6, 0, none⟩) (es.length + 1) cap6)
        rw [HE.out, List.length_append, flat_append]
        exact h
      · have HE := Lib.hid (HT1.out rfl)
        have HNE2 := Lib.hid (HNE.out (by decide))
        clear HT0 HT1 HT2 HNE
        obtain ⟨j, hj⟩ : ∃ j, es.length = j + 1 := ⟨es.length - 1, by have := List.length_pos_iff.2 HNE2.out; omega⟩
        obtain ⟨g, cap', e1, -, hgl⟩ := HO.out.form (by omega)
        simp only [Value.slice.injEq, true_and] at e1
        obtain ⟨rfl, rfl⟩ := e1
        have hj2 : j ≤ 1000000 := by omega
        have hlt : j < es.length := by omega
        obtain ⟨F1, F2, F3⟩ := flat_get es j hlt
        have HS := Lib.hid (flat_set_t es j hlt x)
        have HD := Lib.hid (show es2 = es.set j ⟨es[j].f, x, es[j].w⟩ by
          rw [HE.out, show es.length - 1 = j by omega]
          simp [List.getD, hlt])
        have HLS := Lib.hid (show es2.length = j + 1 by rw [HD.out, List.length_set]; exact hj)
        generalize es[j] = y at *
        rw [hj] at HO
        rw [hj]
        clear hj hlt HE HNE2
        have k1 : w.cell? ⟨g, j * 3 + 1, none⟩ = some (.int .i64 y.t) := (HO.out.cellAt (j * 3 + 1) (by omega)).trans F2
        have z1 := HO.out.frozenAt (j * 3 + 1)
        clear F1 F2 F3
        go_enter Tryz.func185, Tryz.ntmps185
        go_wp2
        have HF := C2.newAt ((w.setCell ⟨g, j * 3 + 1, none⟩ (.int .i64 x)).alloc (gObj gn (.slice (some ⟨g, 0, none⟩) (j + 1) cap))) 53 (.int .i64 gn) (.slice (some ⟨g, 0, none⟩) (j + 1) cap) (show _ = w.heap.size + 1 by simp)
        obtain ⟨r0, r1, -, -⟩ := HF
        refine bodyPost_ret (by simp [results, Tryz.results185, go_sem, r0, r1]; try rfl) rfl ?_
        obtain ⟨s1, s2⟩ := HO.out.stored (j * 3 + 1) (.int .i64 x)
        exact ⟨_, rfl, by rw [HLS.out, HD.out, ← HS.out]; exact (s1.alloc _).alloc _, grown_trans s2 (grown_below _ ((Below.of_al _ _).al _)), fun _ h => .inl h⟩
      · have HE := Lib.hid (HT2.out rfl)
        have HNE2 := Lib.hid (HNE.out (by decide))
        clear HT0 HT1 HT2 HNE
        obtain ⟨j, hj⟩ : ∃ j, es.length = j + 1 := ⟨es.length - 1, by have := List.length_pos_iff.2 HNE2.out; omega⟩
        obtain ⟨g, cap', e1, -, hgl⟩ := HO.out.form (by omega)
        simp only [Value.slice.injEq, true_and] at e1
        obtain ⟨rfl, rfl⟩ := e1
        have hj2 : j ≤ 1000000 := by omega
        have hlt : j < es.length := by omega
        obtain ⟨F1, F2, F3⟩ := flat_get es j hlt
        have HS := Lib.hid (flat_set_w es j hlt x)
        have HD := Lib.hid (show es2 = es.set j ⟨es[j].f, es[j].t, x⟩ by
          rw [HE.out, show es.length - 1 = j by omega]
          simp [List.getD, hlt])
        have HLS := Lib.hid (show es2.length = j + 1 by rw [HD.out, List.length_set]; exact hj)
        generalize es[j] = y at *
        rw [hj] at HO
        rw [hj]
        clear hj hlt HE HNE2
        have k1 : w.cell? ⟨g, j * 3 + 2, none⟩ = some (.int .u64 y.w) := (HO.out.cellAt (j * 3 + 2) (by omega)).trans F3
        have z1 := HO.out.frozenAt (j * 3 + 2)
        clear F1 F2 F3
        go_enter Tryz.func185, Tryz.ntmps185
        go_wp2
        have HF := C2.newAt ((w.setCell ⟨g, j * 3 + 2, none⟩ (.int .u64 x)).alloc (gObj gn (.slice (some ⟨g, 0, none⟩) (j + 1) cap))) 53 (.int .i64 gn) (.slice (some ⟨g, 0, none⟩) (j + 1) cap) (show _ = w.heap.size + 1 by simp)
        obtain ⟨r0, r1, -, -⟩ := HF
        refine bodyPost_ret (by simp [results, Tryz.results185, go_sem, r0, r1]; try rfl) rfl ?_
        obtain ⟨s1, s2⟩ := HO.out.stored (j * 3 + 2) (.int .u64 x)
        exact ⟨_, rfl, by rw [HLS.out, HD.out, ← HS.out]; exact (s1.alloc _).alloc _, grown_trans s2 (grown_below _ ((Below.of_al _ _).al _)), fun _ h => .inl h⟩

end Go.Proofs.YtelcmkccfjdmjaaGreatDoor
