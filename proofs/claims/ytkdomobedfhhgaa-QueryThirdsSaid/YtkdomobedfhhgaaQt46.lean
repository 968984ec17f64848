/-
  Walk of package upward: Space.
-/
import Derived.Test.YtkdomobedfhhgaaProg
import Derived.Test.YtkdomobedfhhgaaQt02
import Derived.Test.YtkdomobedfhhgaaQt45
import Derived.Test.YtkdomobedfhhgaaQt24
import Derived.Deep.Cut
set_option linter.unusedVariables false
set_option linter.unusedSimpArgs false
set_option linter.unnecessarySimpa false
namespace Go.Proofs.Ytkdomobedfhhgaa
open Go Go.Proofs Go.RowKit Go.Shelf Go.Proofs.Ytkdomobedfhhgaa.Hp Go.Proofs.Ytkdomobedfhhgaa.Ch

def spR (n hb : Nat) (back : Bool) : Nat → Value → List Nat → (Nat → Value) → World → Prop
  | 0, v, _, _, _ => v = .pointer (some ⟨hb, 0, none⟩)
  | 1, v, _, _, _ => v = .bool back
  | 2, v, _, _, _ => v = .agg #[.pointer (some ⟨hb, 0, none⟩), .bool back]
  | 3, v, _, _, _ => v = .int .i64 (n : Int)
  | 4, v, g, _, W => ∃ b rb, v = .pointer (some ⟨b, 0, none⟩) ∧ g = [b, rb] ∧ StW W b rb (List.replicate n none)
  | 5, v, _, _, _ => v = .int .i64 (n : Int)
  | 6, v, g, _, W => ∃ fb, v = .slice (some ⟨fb, 0, none⟩) n n ∧ g = [fb] ∧ W.ownsRow 0 3 1 (.slice (some ⟨fb, 0, none⟩) n n) n (List.replicate n (.int .i64 0))
  | 7, v, _, _, _ => v = .int .i64 (n : Int)
  | 8, v, g, _, W => ∃ b a, v = .pointer (some ⟨b, 0, none⟩) ∧ g = [b, a] ∧ HeapW W b (.slice none 0 0) (.slice (some ⟨a, 0, none⟩) n n) [] (List.replicate n (-1))
  | 9, v, _, vs, _ => v = .agg #[.pointer (some ⟨hb, 0, none⟩), .bool back, vs 4, vs 6, vs 8]
  | 10, v, g, vs, W => ∃ xb x3 x4 x5, v = .pointer (some ⟨xb, 0, none⟩) ∧ g = [xb] ∧ vs 9 = .agg #[.pointer (some ⟨hb, 0, none⟩), .bool back, x3, x4, x5] ∧ PB W xb [.pointer (some ⟨hb, 0, none⟩), .bool back, x3, x4, x5]
  | 11, v, _, vs, _ => v = vs 10
  | _, _, _, _, _ => True

theorem in2 {k a b : Nat} {p : Nat → Prop} (h : k ∈ [a, b]) (h1 : p a) (h2 : p b) : p k := by
  simp only [List.mem_cons, List.not_mem_nil, or_false] at h
  rcases h with rfl | rfl
  · exact h1
  · exact h2
theorem PB.new5 (w : World) (T : TypeId) (x0 x1 x2 x3 x4 : Value) : PB (w.alloc (.cells #[x0, x1, x2, x3, x4] T)) w.heap.size [x0, x1, x2, x3, x4] := by
  intro i x hx
  match i with
  | 0 => cases hx; exact ⟨by go_simp, by go_simp⟩
  | 1 => cases hx; exact ⟨by go_simp, by go_simp⟩
  | 2 => cases hx; exact ⟨by go_simp, by go_simp⟩
  | 3 => cases hx; exact ⟨by go_simp, by go_simp⟩
  | 4 => cases hx; exact ⟨by go_simp, by go_simp⟩
  | i + 5 => simp at hx
theorem spR_go {n hb : Nat} {back : Bool} : ∀ (i : Nat) (v : Value) (g : List Nat) (vs : Nat → Value) (w w' : World), Below w.heap.size w w' → spR n hb back i v g vs w → spR n hb back i v g vs w'
  | 0, _, _, _, _, _, _, h | 1, _, _, _, _, _, _, h | 2, _, _, _, _, _, _, h | 3, _, _, _, _, _, _, h | 5, _, _, _, _, _, _, h | 7, _, _, _, _, _, _, h | 9, _, _, _, _, _, _, h | 11, _, _, _, _, _, _, h => h
  | 4, _, _, _, _, _, hb, h => let ⟨b, rb, h1, h2, h3⟩ := h; ⟨b, rb, h1, h2, h3.go hb⟩
  | 6, _, _, _, _, _, hb, h => let ⟨b, h1, h2, h3⟩ := h; ⟨b, h1, h2, hp_owns_go h3 hb⟩
  | 8, _, _, _, _, _, hb, h => let ⟨b, rb, h1, h2, h3⟩ := h; ⟨b, rb, h1, h2, h3.go hb⟩
  | 10, _, _, _, _, _, hb, h => let ⟨b, x3, x4, x5, h1, h2, h3, h4⟩ := h; ⟨b, x3, x4, x5, h1, h2, h3, h4.go hb⟩
  | _ + 12, _, _, _, _, _, _, _ => trivial
theorem sp_mk (n : Nat) (hn : n ≤ 60000) (W : World) : (W.alloc (.cells (madeCells #[.int .i64 0] n) 3)).ownsRow 0 3 1 (.slice (some ⟨W.heap.size, 0, none⟩) n n) n (List.replicate n (.int .i64 0)) := own_mk_any _ _ n hn W
/-- the search's memory, new -/
def SpP (w : World) (hb n : Nat) (back : Bool) (v : Value) (W : World) : Prop := ∃ xb sb rb fb hp a, v = .pointer (some ⟨xb, 0, none⟩) ∧ UpW w W xb hb back sb rb fb hp n (.slice (some ⟨a, 0, none⟩) n n) (.slice none 0 0) ⟨List.replicate n none, List.replicate n 0, [], List.replicate n (-1)⟩
theorem spP_of {n hb : Nat} {back : Bool} {vs : Nat → Value} {gs : Nat → List Nat} {w W : World} (hb' : Below w.heap.size w W)
    (h : ∀ i, i < 12 → spR n hb back i (vs i) (gs i) vs W) (hg : ∀ i k, i < 12 → k ∈ gs i → w.heap.size ≤ k ∧ k < W.heap.size) (hd : ∀ i j k, i < 12 → j < 12 → i ≠ j → k ∈ gs i → k ∉ gs j) : SpP w hb n back (vs 11) W := by
  obtain ⟨sb, rb, e4, g4, f4⟩ := h 4 (by decide)
  obtain ⟨fb, e6, g6, f6⟩ := h 6 (by decide)
  obtain ⟨hp, a, e8, g8, f8⟩ := h 8 (by decide)
  have e9 : vs 9 = _ := h 9 (by decide)
  obtain ⟨xb, x3, x4, x5, e10, g10, q10, f10⟩ := h 10 (by decide)
  have e11 : vs 11 = vs 10 := h 11 (by decide)
  rw [q10, e4, e6, e8] at e9
  cases e9
  have m4 : sb ∈ gs 4 := by rw [g4]; simp
  have m4' : rb ∈ gs 4 := by rw [g4]; simp
  have m6 : fb ∈ gs 6 := by rw [g6]; simp
  have m8 : hp ∈ gs 8 := by rw [g8]; simp
  have m8' : a ∈ gs 8 := by rw [g8]; simp
  have m10 : xb ∈ gs 10 := by rw [g10]; simp
  have hh : ∀ k, HX hp (.slice none 0 0) (.slice (some ⟨a, 0, none⟩) n n) k → k ∈ gs 8 := by
    rintro k (e | e | e)
    · rw [e]; exact m8
    · cases e
    · cases e; exact m8'
  have hne : ∀ {i j x y}, i < 12 → j < 12 → i ≠ j → x ∈ gs i → y ∈ gs j → x ≠ y := fun hi hj hij hx hy e => hd _ _ _ hi hj hij hx (by rw [e]; exact hy)
  refine ⟨xb, sb, rb, fb, hp, a, by rw [e11, e10], f10, ⟨f4, f8, ?_, hb', ⟨(hg 4 _ (by decide) m4).1, (hg 4 _ (by decide) m4').1, (hg 6 _ (by decide) m6).1, fun k hk => (hg 8 _ (by decide) (hh k hk)).1⟩, fun k hk => ⟨hne (by decide) (by decide) (by decide) (hh k hk) m4, hne (by decide) (by decide) (by decide) (hh k hk) m4', hne (by decide) (by decide) (by decide) (hh k hk) m6⟩, ⟨hne (by decide) (by decide) (by decide) m6 m4, hne (by decide) (by decide) (by decide) m6 m4'⟩⟩, heap_new n,
    ⟨by simp, by simp, by simp⟩, (hg 10 _ (by decide) m10).1, hne (by decide) (by decide) (by decide) m10 m4, hne (by decide) (by decide) (by decide) m10 m4', hne (by decide) (by decide) (by decide) m10 m6, fun hk => hd 10 8 xb (by decide) (by decide) (by decide) m10 (hh xb hk)⟩
  rw [List.map_replicate, List.length_replicate]
  exact f6
/-- what Space gives -/
def SpacePost (es : List EdgeD) (S : List SC) (back : Bool) (ro : List Int) (s n : Nat) (w : World) (e : Ending) (w' : World) : Prop :=
  ∃ (ao : Option Addr) (cap : Nat) (l : List LB), e = .returned (.tuple #[.slice ao l.length cap, .int .i64 0]) ∧ Cel w' ao (flatB l) ∧ Below w.heap.size w w' ∧ Space (relB back (arcG es)) (XN S back) (rk ro) (s : Int) (l.map labOf) ∧ l.length ≤ n ∧ l.Pairwise (fun a b => a.v ≤ b.v)

set_option maxRecDepth 100000 in
set_option maxHeartbeats 4000000 in
theorem space_any (hb n : Nat) (es : List EdgeD) (R : List Int) (S : List SC) (ro : List Int) (s : Nat) (back : Bool) (w : World) (hh : HierM w hb n es R S (rowsK R S n S.length).1 (rowsK R S n S.length).2) (hok : HierOK es n R S ro) (hn : n ≤ 12) (hsn : s < n) :
    Calls Try.prog 26 #[.pointer (some ⟨hb, 0, none⟩), .int .i64 (s : Int), .bool back] w (SpacePost es S back ro s n w) := by
  have hn0 : 0 < n := by omega
  have hs0 : (0 : Int) ≤ (s : Int) := by omega
  have hs1 : (s : Int) < (n : Int) := by omega
  have HHN := fun W => hNew_any n (by omega) W
  have HSN := fun W => sNew_any n (by omega) W
  have HN := Lib.hid (nodes_any hb n es R S _ _ w hh)
  have HH := Lib.hid hh
  have HOK := Lib.hid hok
  have hn6 : n ≤ 60000 := by omega
  unfold SpacePost
  clear hh hok
  go_enter Try.func26, Try.ntmps26
  go_upto_region 6 with (go_at_call 46; refine HN.out.mono ?_; rintro e w1 ⟨rfl, rfl⟩)
  go_cut [9] from 10 (fun v wc => SpP w hb n back v wc)
  case first =>
    rename_i J K2 hJ hK2
    refine wp_region_grows (spR n hb back) (by kernel_rfl) (by kernel_rfl) ?_ ?_ ?_ ?_
    case refine_3 =>
      refine ⟨?_, ?_, ?_, ?_, ?_, ?_, ?_, ?_, ?_, ?_, ?_, ?_, trivial⟩ -- ISO
      · intro vs w' hbe hd K hK
        have hm0 : True := trivial
        simp only [puts, dstAt, List.getElem?_cons_zero, List.getElem?_cons_succ, Option.bind_some, Option.getD_some, Act.put, List.length_cons, List.length_nil, Nat.reduceAdd, List.setIfInBounds_toArray, List.set_cons_zero, List.set_cons_succ, true_and] at hK ⊢
        simp [Oper.wp, execOp, Oper.upon, go_sem, Act.eval, Act.put, true_and]
        exact hK _ [] w' (Below.refl _ _) rfl (fun _ h => nomatch h)
      · intro vs w' hbe hd K hK
        have hm0 : True := trivial
        simp only [puts, dstAt, List.getElem?_cons_zero, List.getElem?_cons_succ, Option.bind_some, Option.getD_some, Act.put, List.length_cons, List.length_nil, Nat.reduceAdd, List.setIfInBounds_toArray, List.set_cons_zero, List.set_cons_succ, true_and] at hK ⊢
        simp [Oper.wp, execOp, Oper.upon, go_sem, Act.eval, Act.put, true_and]
        exact hK _ [] w' (Below.refl _ _) rfl (fun _ h => nomatch h)
      · intro vs w' hbe hd K hK
        have hm0 : True := trivial
        have d0 := (hd 0 (by rfl)).choose_spec
        have d1 := (hd 1 (by rfl)).choose_spec
        have e0 : vs 0 = _ := d0
        have e1 : vs 1 = _ := d1
        simp only [puts, dstAt, List.getElem?_cons_zero, List.getElem?_cons_succ, Option.bind_some, Option.getD_some, Act.put, List.length_cons, List.length_nil, Nat.reduceAdd, List.setIfInBounds_toArray, List.set_cons_zero, List.set_cons_succ, e0, e1] at hK ⊢
        simp [Oper.wp, execOp, Oper.upon, go_sem, Act.eval, Act.put, e0, e1]
        exact hK _ [] w' (Below.refl _ _) rfl (fun _ h => nomatch h)
      · intro vs w' hbe hd K hK
        have hm0 : True := trivial
        simp only [puts, dstAt, List.getElem?_cons_zero, List.getElem?_cons_succ, Option.bind_some, Option.getD_some, Act.put, List.length_cons, List.length_nil, Nat.reduceAdd, List.setIfInBounds_toArray, List.set_cons_zero, List.set_cons_succ, true_and] at hK ⊢
        simp [Oper.wp, execOp, Oper.upon, go_sem, Act.eval, Act.put, true_and]
        exact hK _ [] w' (Below.refl _ _) rfl (fun _ h => nomatch h)
      · intro vs w' hbe hd K hK
        have hm0 : True := trivial
        have d3 := (hd 3 (by rfl)).choose_spec
        have e3 : vs 3 = _ := d3
        simp only [puts, dstAt, List.getElem?_cons_zero, List.getElem?_cons_succ, Option.bind_some, Option.getD_some, Act.put, List.length_cons, List.length_nil, Nat.reduceAdd, List.setIfInBounds_toArray, List.set_cons_zero, List.set_cons_succ, e3] at hK ⊢
        simp [Oper.wp, execOp, Oper.upon, go_sem, Act.eval, Act.put, e3]
        refine (HSN w').mono ?_
        rintro e w4 ⟨b, rb, rfl, h1, h2, h3, h4⟩
        have hrr := show spR n hb back 4 (.pointer (some ⟨b, 0, none⟩)) [b, rb] vs w4 from ⟨b, rb, rfl, rfl, h1⟩
        have hgg := show Below w'.heap.size w' w4 ∧ ∀ k ∈ [b, rb], w'.heap.size ≤ k ∧ k < w4.heap.size from ⟨h4, fun k hk => in2 (p := fun k => w'.heap.size ≤ k ∧ k < w4.heap.size) hk ⟨h2, h1.lt.1⟩ ⟨h3, h1.lt.2⟩⟩
        dsimp only
        exact hK _ _ w4 hgg.1 hrr hgg.2
      · intro vs w' hbe hd K hK
        have hm0 : True := trivial
        simp only [puts, dstAt, List.getElem?_cons_zero, List.getElem?_cons_succ, Option.bind_some, Option.getD_some, Act.put, List.length_cons, List.length_nil, Nat.reduceAdd, List.setIfInBounds_toArray, List.set_cons_zero, List.set_cons_succ, true_and] at hK ⊢
        simp [Oper.wp, execOp, Oper.upon, go_sem, Act.eval, Act.put, true_and]
        exact hK _ [] w' (Below.refl _ _) rfl (fun _ h => nomatch h)
      · intro vs w' hbe hd K hK
        have hm0 : True := trivial
        have d5 := (hd 5 (by rfl)).choose_spec
        have e5 : vs 5 = _ := d5
        have hr := run_mk_int n hn6 w'
        simp only [puts, dstAt, List.getElem?_cons_zero, List.getElem?_cons_succ, Option.bind_some, Option.getD_some, Act.put, List.length_cons, List.length_nil, Nat.reduceAdd, List.setIfInBounds_toArray, List.set_cons_zero, List.set_cons_succ, true_and] at hK ⊢
        simp [Oper.wp, execOp, Oper.upon, go_sem, Act.eval, Act.put, true_and]
        simp only [e5] at hK ⊢
        rw [hr]
        simp only [Result.andThen]
        obtain ⟨w4, hw4⟩ : ∃ w4, w4 = w'.alloc (.cells (madeCells #[.int .i64 0] n) 3) := ⟨_, rfl⟩
        have hsz : w4.heap.size = w'.heap.size + 1 := by rw [hw4]; simp
        have hsp : w4.ownsRow 0 3 1 (.slice (some ⟨w'.heap.size, 0, none⟩) n n) n (List.replicate n (.int .i64 0)) := by rw [hw4]; exact sp_mk n hn6 w'
        have hb4 : Below w'.heap.size w' w4 := by rw [hw4]; exact Below.of_al _ _
        rw [← hw4]
        exact hK _ [w'.heap.size] w4 hb4 (show spR n hb back 6 (.slice (some ⟨w'.heap.size, 0, none⟩) n n) [w'.heap.size] vs w4 from ⟨w'.heap.size, rfl, rfl, hsp⟩) (fun k hk => by simp at hk; subst hk; omega)
      · intro vs w' hbe hd K hK
        have hm0 : True := trivial
        simp only [puts, dstAt, List.getElem?_cons_zero, List.getElem?_cons_succ, Option.bind_some, Option.getD_some, Act.put, List.length_cons, List.length_nil, Nat.reduceAdd, List.setIfInBounds_toArray, List.set_cons_zero, List.set_cons_succ, true_and] at hK ⊢
        simp [Oper.wp, execOp, Oper.upon, go_sem, Act.eval, Act.put, true_and]
        exact hK _ [] w' (Below.refl _ _) rfl (fun _ h => nomatch h)
      · intro vs w' hbe hd K hK
        have hm0 : True := trivial
        have d7 := (hd 7 (by rfl)).choose_spec
        have e7 : vs 7 = _ := d7
        simp only [puts, dstAt, List.getElem?_cons_zero, List.getElem?_cons_succ, Option.bind_some, Option.getD_some, Act.put, List.length_cons, List.length_nil, Nat.reduceAdd, List.setIfInBounds_toArray, List.set_cons_zero, List.set_cons_succ, e7] at hK ⊢
        simp [Oper.wp, execOp, Oper.upon, go_sem, Act.eval, Act.put, e7]
        refine (HHN w').mono ?_
        rintro e w4 ⟨b, a, rfl, h1, h2, h3, h4⟩
        have hrr := show spR n hb back 8 (.pointer (some ⟨b, 0, none⟩)) [b, a] vs w4 from ⟨b, a, rfl, rfl, h1⟩
        have hgg := show Below w'.heap.size w' w4 ∧ ∀ k ∈ [b, a], w'.heap.size ≤ k ∧ k < w4.heap.size from ⟨h4, fun k hk => in2 (p := fun k => w'.heap.size ≤ k ∧ k < w4.heap.size) hk ⟨h2, h1.pb.lt⟩ ⟨h3, (h1.oa.lt _ rfl).2⟩⟩
        dsimp only
        exact hK _ _ w4 hgg.1 hrr hgg.2
      · intro vs w' hbe hd K hK
        have hm0 : True := trivial
        have d2 := (hd 2 (by rfl)).choose_spec
        have d4 := (hd 4 (by rfl)).choose_spec
        have d6 := (hd 6 (by rfl)).choose_spec
        have d8 := (hd 8 (by rfl)).choose_spec
        have e2 : vs 2 = _ := d2
        obtain ⟨b4, rb4, e4, -⟩ := d4
        obtain ⟨fb, e6, -⟩ := d6
        obtain ⟨b8, a8, e8, -⟩ := d8
        simp only [puts, dstAt, List.getElem?_cons_zero, List.getElem?_cons_succ, Option.bind_some, Option.getD_some, Act.put, List.length_cons, List.length_nil, Nat.reduceAdd, List.setIfInBounds_toArray, List.set_cons_zero, List.set_cons_succ, e2, e4, e6, e8] at hK ⊢
        simp [Oper.wp, execOp, Oper.upon, go_sem, Act.eval, Act.put, e2, e4, e6, e8]
        exact hK _ [] w' (Below.refl _ _) (by show _ = _; rw [e4, e6, e8]) (fun _ h => nomatch h)
      · intro vs w' hbe hd K hK
        have hm0 : True := trivial
        have d9 := (hd 9 (by rfl)).choose_spec
        have e9 : vs 9 = _ := d9
        simp only [puts, dstAt, List.getElem?_cons_zero, List.getElem?_cons_succ, Option.bind_some, Option.getD_some, Act.put, List.length_cons, List.length_nil, Nat.reduceAdd, List.setIfInBounds_toArray, List.set_cons_zero, List.set_cons_succ, true_and] at hK ⊢
        simp [Oper.wp, execOp, Oper.upon, go_sem, Act.eval, Act.put, true_and]
        simp only [e9] at hK ⊢
        exact hK _ [w'.heap.size] _ (Below.of_al _ _) (show spR n hb back 10 (.pointer (some ⟨w'.heap.size, 0, none⟩)) [w'.heap.size] vs _ from ⟨w'.heap.size, _, _, _, rfl, rfl, e9, PB.new5 _ _ _ _ _ _ _⟩) (fun k hk => by simp at hk; subst hk; simp)
      · intro vs w' hbe hd K hK
        have hm0 : True := trivial
        simp only [puts, dstAt, List.getElem?_cons_zero, List.getElem?_cons_succ, Option.bind_some, Option.getD_some, Act.put, List.length_cons, List.length_nil, Nat.reduceAdd, List.setIfInBounds_toArray, List.set_cons_zero, List.set_cons_succ, true_and] at hK ⊢
        simp [Oper.wp, execOp, Oper.upon, go_sem, Act.eval, Act.put, true_and]
        exact hK _ [] w' (Below.refl _ _) rfl (fun _ h => nomatch h)
    case refine_1 => exact spR_go
    case refine_2 =>
      intro i v g vs vs' w1 h hr
      match i with
      | 0 | 1 | 2 | 3 | 4 | 5 | 6 | 7 | 8 => exact hr
      | 9 => (have h4 := h 4 (by rfl)); (have h6 := h 6 (by rfl)); (have h8 := h 8 (by rfl)); (show v = _; rw [h4, h6, h8]; exact hr)
      | 10 => (have h9 := h 9 (by rfl)); (show ∃ _, _; rw [h9]; exact hr)
      | 11 => (have h9 := h 10 (by rfl)); (show v = _; rw [h9]; exact hr)
      | i + 12 => trivial
    case refine_4 =>
      intro vs gs w' hb1 hR hG hN
      simp only [puts, dstAt, List.getElem?_cons_zero, List.getElem?_cons_succ, Option.bind_some, Option.getD_some, Act.put, List.length_cons, List.length_nil, Nat.reduceAdd, List.setIfInBounds_toArray, List.set_cons_zero, List.set_cons_succ]
      refine hK2 _ _ ?_
      go_meet
      exact spP_of hb1 hR hG hN
  case rest =>
    obtain ⟨xb, sb, rb, fb, hp, a, rfl, hU⟩ := hcut
    have HU := Lib.hid hU
    have HR := Lib.hid (run_any w wc xb hb back sb rb fb hp n _ _ es R S ro s hU HH.out HOK.out hsn hn sortOK)
    unfold RunPost at HR
    clear hU
    go_wp2_with (go_at_call 48; refine HR.out.mono ?_; rintro e w2 ⟨ao, cap, l, rfl, h1, h2, h3, h4⟩; (have HQ := Lib.hid (And.intro h1 (And.intro h2 (And.intro h3 h4)))); clear h1 h2 h3 h4)
    refine bodyPost_ret (v := .tuple #[.slice ao l.length cap, .int .i64 0]) (by simp [results, Try.results26, go_sem]; try rfl) rfl ?_
    exact ⟨ao, cap, l, rfl, HQ.out⟩
/-- of none, and of nodes that are not there -/
theorem space_nil (s : Int) (back : Bool) (w : World) : Calls Try.prog 26 #[.pointer none, .int .i64 s, .bool back] w fun e w' => e = .returned (.tuple #[.slice none 0 0, .int .i64 1]) ∧ Below w.heap.size w w' := by
  have HN := Lib.hid (nodes_nil w)
  go_enter Try.func26, Try.ntmps26
  go_wp2_with (go_at_call 46; refine HN.out.mono ?_; rintro e w1 ⟨rfl, rfl⟩)
  refine bodyPost_ret (v := .tuple #[.slice none 0 0, .int .i64 1]) (by simp [results, Try.results26, go_sem]; try rfl) rfl ?_
  exact ⟨rfl, Below.refl _ _⟩
theorem space_off (hb n : Nat) (es : List EdgeD) (R : List Int) (S : List SC) (O I : List (List Int)) (s : Int) (back : Bool) (w : World) (hh : HierM w hb n es R S O I) (hn : 0 < n) (hs : s < 0 ∨ (n : Int) ≤ s) :
    Calls Try.prog 26 #[.pointer (some ⟨hb, 0, none⟩), .int .i64 s, .bool back] w fun e w' => e = .returned (.tuple #[.slice none 0 0, .int .i64 7]) ∧ Below w.heap.size w w' := by
  have HN := Lib.hid (nodes_any hb n es R S _ _ w hh)
  have hn1 : ¬ (n : Int) = 0 := by omega
  clear hh
  by_cases h0 : s < 0
  · go_enter Try.func26, Try.ntmps26
    go_wp2_with (go_at_call 46; refine HN.out.mono ?_; rintro e w1 ⟨rfl, rfl⟩)
    refine bodyPost_ret (v := .tuple #[.slice none 0 0, .int .i64 7]) (by simp [results, Try.results26, go_sem]; try rfl) rfl ?_
    exact ⟨rfl, Below.refl _ _⟩
  · have h1 : (n : Int) ≤ s := by omega
    go_enter Try.func26, Try.ntmps26
    go_wp2_with (go_at_call 46; refine HN.out.mono ?_; rintro e w1 ⟨rfl, rfl⟩)
    refine bodyPost_ret (v := .tuple #[.slice none 0 0, .int .i64 7]) (by simp [results, Try.results26, go_sem]; try rfl) rfl ?_
    exact ⟨rfl, Below.refl _ _⟩
end Go.Proofs.Ytkdomobedfhhgaa
