/-
  Walks of package gtext: an edge more.
-/
import Derived.Test.YtelcmkccfjdmjaaDoorProg
import Derived.Test.YtelcmkccfjdmjaaDoorGpB
import Derived.Laws.EntriesVeiled
namespace Go.Proofs.YtelcmkccfjdmjaaDoor
open Go.Proofs Go.RowKit Go.Shelf

/-- three cells that may be written -/
def E3 (W : World) (b : Nat) (x y z : Value) : Prop := W.cell? ⟨b, 0, none⟩ = some x ∧ W.cell? ⟨b, 1, none⟩ = some y ∧ W.cell? ⟨b, 2, none⟩ = some z ∧ W.frozen? ⟨b, 0, none⟩ = false ∧ W.frozen? ⟨b, 1, none⟩ = false ∧ W.frozen? ⟨b, 2, none⟩ = false
theorem E3.new (w : World) (T : TypeId) (x y z : Value) : E3 (w.alloc (.cells #[x, y, z] T)) w.heap.size x y z := ⟨by go_simp, by go_simp, by go_simp, by go_simp, by go_simp, by go_simp⟩
theorem E3.off {W W' : World} {b R : Nat} {x y z : Value} (h : E3 W b x y z) (hb : Off R W W') (hn : b ≠ R) : E3 W' b x y z :=
  ⟨hb.cell h.1 hn, hb.cell h.2.1 hn, hb.cell h.2.2.1 hn, (hb.frozen (cell_ltP h.1) hn).trans h.2.2.2.1, (hb.frozen (cell_ltP h.2.1) hn).trans h.2.2.2.2.1, (hb.frozen (cell_ltP h.2.2.1) hn).trans h.2.2.2.2.2⟩
theorem E3.go {W W' : World} {b : Nat} {x y z : Value} (h : E3 W b x y z) (hb : Below W.heap.size W W') : E3 W' b x y z :=
  ⟨cell_later hb h.1, cell_later hb h.2.1, cell_later hb h.2.2.1, (hb.frozen (cell_ltP h.1)).trans h.2.2.2.1, (hb.frozen (cell_ltP h.2.1)).trans h.2.2.2.2.1, (hb.frozen (cell_ltP h.2.2.1)).trans h.2.2.2.2.2⟩
theorem E3.set0 {W : World} {b : Nat} {x y z : Value} (h : E3 W b x y z) (u : Value) : E3 (W.setCell ⟨b, 0, none⟩ u) b u y z := by
  obtain ⟨h0, h1, h2, f0, f1, f2⟩ := h
  refine ⟨World.cell?_setCell_same _ _ _ h0, ?_, ?_, ?_, ?_, ?_⟩
  · rw [World.cell?_setCell_other _ _ _ _ (by simp)]; exact h1
  · rw [World.cell?_setCell_other _ _ _ _ (by simp)]; exact h2
  all_goals (rw [World.frozen?_setCell]; assumption)
theorem E3.set1 {W : World} {b : Nat} {x y z : Value} (h : E3 W b x y z) (u : Value) : E3 (W.setCell ⟨b, 1, none⟩ u) b x u z := by
  obtain ⟨h0, h1, h2, f0, f1, f2⟩ := h
  refine ⟨?_, World.cell?_setCell_same _ _ _ h1, ?_, ?_, ?_, ?_⟩
  · rw [World.cell?_setCell_other _ _ _ _ (by simp)]; exact h0
  · rw [World.cell?_setCell_other _ _ _ _ (by simp)]; exact h2
  all_goals (rw [World.frozen?_setCell]; assumption)
theorem E3.set2 {W : World} {b : Nat} {x y z : Value} (h : E3 W b x y z) (u : Value) : E3 (W.setCell ⟨b, 2, none⟩ u) b x y u := by
  obtain ⟨h0, h1, h2, f0, f1, f2⟩ := h
  refine ⟨?_, ?_, World.cell?_setCell_same _ _ _ h2, ?_, ?_, ?_⟩
  · rw [World.cell?_setCell_other _ _ _ _ (by simp)]; exact h0
  · rw [World.cell?_setCell_other _ _ _ _ (by simp)]; exact h1
  all_goals (rw [World.frozen?_setCell]; assumption)

theorem edge1_any (n fr a b f : Int) (Eb Fb B : Nat) (w : World) (hE : w.cell? ⟨Eb, 0, none⟩ = some (.int .i64 fr)) (hF : w.cell? ⟨Fb, 0, none⟩ = some (.func (.func 134) #[] (bxV B))) (h : Bx w B a b f) (h0 : 0 ≤ fr) (h1 : fr ≤ 9223372036854775807) :
    Calls Tryd.prog 112 (#[.int .u64 n] ++ #[.pointer (some ⟨Eb, 0, none⟩), .pointer (some ⟨Fb, 0, none⟩)]) w fun e w' => e = .returned (.int .i64 (if n = fr then 7 else withinF a b f n)) ∧ w' = w := by
  have HX := Lib.hid (within1_any n a b f B w h)
  have hw : IntKind.u64.wrap fr = fr := IntWalk.u64_in _ (by omega)
  generalize withinF a b f n = r at *
  by_cases c : n = fr
  · have hc : (n == fr) = true := by simpa using c
    rw [if_pos c]
    clear c
    go_enter Tryd.func112, Tryd.ntmps112
    go_wp2
    go_ret
    exact ⟨rfl, rfl⟩
  · have hc : (n == fr) = false := by simpa using c
    rw [if_neg c]
    clear c
    go_enter Tryd.func112, Tryd.ntmps112
    go_wp2_with (go_at_call 134; refine HX.out.mono ?_; rintro e w1 ⟨rfl, rfl⟩)
    go_ret
    exact ⟨rfl, rfl⟩

theorem edge1_enters : Enters Tryd.prog 112 := enters_of Tryd.func112 (by kernel_rfl) rfl

set_option maxHeartbeats 4000000 in
theorem edge_any (l : List ByteArray) (ao : Option Addr) (cap R k : Nat) (f n : Int) (w : World) (hrd : Rd w R ao cap l.length k f) (hc : Cel w ao (l.map encS)) (hne : l ≠ [] → ∀ x, ao = some x → x.block ≠ R)
    (hsz : ∀ x ∈ l, x.size ≤ 140737488355328) (hl : l.length ≤ 140737488355328) (hk : k ≤ l.length) (hn : 1 ≤ n ∧ n ≤ 4096) :
    Calls Tryd.prog 82 #[.pointer (some ⟨R, 0, none⟩), .int .i64 n] w fun e w' => e = .returned (encE (edgeS l n k f).1) ∧ Rd w' R ao cap l.length (edgeS l n k f).2.1 (edgeS l n k f).2.2 ∧ Off R w w' := by
  have HD := Lib.hid hrd
  have HC := Lib.hid hc
  have hR : R < w.heap.size := cell_ltP hrd.1
  have HN := Lib.hid (fun k f B may W (h1 : Rd W R ao cap l.length k f) h2 h3 h4 => next_any l ao cap R k f 134 (bxV B) may W h1 h2 hsz hl h3 within_enters h4)
  have HM := Lib.hid (fun k f cb may W (h1 : Rd W R ao cap l.length k f) h2 h3 h4 => next_any l ao cap R k f 112 cb may W h1 h2 hsz hl h3 edge1_enters h4)
  have HF := Lib.hid (edgeS.eq_1 l n k f)
  have hk1 : (nextS l k f (withinF 0 (n - 1) 7)).2.1 ≤ l.length := nextS_pos hk
  have hv1 : 0 ≤ (nextS l k f (withinF 0 (n - 1) 7)).1 ∧ (nextS l k f (withinF 0 (n - 1) 7)).1 ≤ n - 1 := nextS_le (by omega) (fun n h => withinF_le (by decide) h)
  have H1 := Lib.hid (fun B W h1 h2 (h4 : Bx W B 0 (n - 1) 7) => HN.out k f B (withinF 0 (n - 1) 7) W h1 h2 (by omega) (fun x W' _ _ hb => within1_any x 0 (n - 1) 7 B W' (h4.go hb)))
  generalize nextS l k f (withinF 0 (n - 1) 7) = S1 at *
  have hk2 : (nextS l S1.2.1 S1.2.2 (fun x => if x = S1.1 then 7 else withinF 0 (n - 1) 7 x)).2.1 ≤ l.length := nextS_pos hk1
  have hv2 : 0 ≤ (nextS l S1.2.1 S1.2.2 (fun x => if x = S1.1 then 7 else withinF 0 (n - 1) 7 x)).1 ∧ (nextS l S1.2.1 S1.2.2 (fun x => if x = S1.1 then 7 else withinF 0 (n - 1) 7 x)).1 ≤ n - 1 := nextS_le (by omega) (fun x h => by
    split at h
    · cases h
    · exact withinF_le (by decide) h)
  have H2 := Lib.hid (fun Eb Fb B W h1 h2 (h4 : Bx W B 0 (n - 1) 7) (h5 : W.cell? ⟨Eb, 0, none⟩ = some (.int .i64 S1.1)) (h6 : W.cell? ⟨Fb, 0, none⟩ = some (.func (.func 134) #[] (bxV B))) =>
    HM.out S1.2.1 S1.2.2 #[.pointer (some ⟨Eb, 0, none⟩), .pointer (some ⟨Fb, 0, none⟩)] (fun x => if x = S1.1 then 7 else withinF 0 (n - 1) 7 x) W h1 h2 (by omega)
      (fun x W' _ _ hb => edge1_any x S1.1 0 (n - 1) 7 Eb Fb B W' (cell_later hb h5) (cell_later hb h6) (h4.go hb) hv1.1 (by omega)))
  generalize nextS l S1.2.1 S1.2.2 (fun x => if x = S1.1 then 7 else withinF 0 (n - 1) 7 x) = S2 at *
  have hv3 : 0 ≤ (nextS l S2.2.1 S2.2.2 (withinF 1 4294967296 2)).1 ∧ (nextS l S2.2.1 S2.2.2 (withinF 1 4294967296 2)).1 ≤ 4294967296 := nextS_le (by decide) (fun n h => withinF_le (by decide) h)
  have H3 := Lib.hid (fun B W h1 h2 (h4 : Bx W B 1 4294967296 2) => HN.out S2.2.1 S2.2.2 B (withinF 1 4294967296 2) W h1 h2 (by omega) (fun x W' _ _ hb => within1_any x 1 4294967296 2 B W' (h4.go hb)))
  generalize nextS l S2.2.1 S2.2.2 (withinF 1 4294967296 2) = S3 at *
  generalize edgeS l n k f = r at *
  obtain ⟨v1, k1, f1⟩ := S1
  obtain ⟨v2, k2, f2⟩ := S2
  obtain ⟨v3, k3, f3⟩ := S3
  simp only at hv1 hv2 hv3 HF H2 H3
  clear hrd hc HN HM hk1 hk2
  have hnw : IntKind.u64.wrap (n - 1) = n - 1 := IntWalk.u64_in _ (by omega)
  have hw1 : IntKind.i64.wrap v1 = v1 := IntWalk.i64_in _ (by omega)
  have hw2 : IntKind.i64.wrap v2 = v2 := IntWalk.i64_in _ (by omega)
  go_enter Tryd.func82, Tryd.ntmps82
  go_wp2_with fail
  obtain ⟨W, hW⟩ : ∃ W, W = w.alloc (Obj.cells #[.int .i64 0, .int .i64 0, .int .u64 0] 108) := ⟨_, rfl⟩
  have HE0 := Lib.hid (show E3 W w.heap.size (.int .i64 0) (.int .i64 0) (.int .u64 0) by rw [hW]; exact E3.new _ _ _ _ _)
  have HO0 := Lib.hid (show Off R w W by rw [hW]; exact (Off.refl R w).al _)
  rw [← hW]
  have HZ0 := Lib.hid (show w.heap.size < W.heap.size by rw [hW]; simp)
  have HD0 := Lib.hid (show Rd W R ao cap l.length k f by rw [hW]; exact HD.out.go (Below.of_al _ _))
  clear hW
  refine (within_any 0 (n - 1) 7 _).mono ?_
  rintro e w1 ⟨rfl, hx1, hb1, hz1⟩
  have HX1 := Lib.hid hx1
  have HB1 := Lib.hid hb1
  have HZ1 := Lib.hid (show W.heap.size + 3 = w1.heap.size from hz1.symm)
  clear hx1 hb1 hz1
  go_wp2_with fail
  obtain ⟨W2, hW2⟩ : ∃ W2, W2 = w1.alloc (Obj.cells #[Value.func (Fn.func 134) #[] (bxV W.heap.size)] 164) := ⟨_, rfl⟩
  have HF2 := Lib.hid (show W2.cell? ⟨w1.heap.size, 0, none⟩ = some (.func (.func 134) #[] (bxV W.heap.size)) by rw [hW2]; go_simp)
  have HB2 := Lib.hid (show Below W.heap.size W W2 by rw [hW2]; exact HB1.out.al _)
  have HX2 := Lib.hid (show Bx W2 W.heap.size 0 (n - 1) 7 by rw [hW2]; exact HX1.out.go (Below.of_al _ _))
  rw [← hW2]
  clear hW2 HX1 HB1
  have HE2 := Lib.hid (HE0.out.go HB2.out)
  have HO2 := Lib.hid (HO0.out.st HB2.out)
  refine (H1.out _ W2 (HD0.out.go HB2.out) ((HC.out.offL HO0.out hne).go HB2.out) HX2.out).mono ?_
  rintro e w3 ⟨rfl, hd3, ho3⟩
  have HB1 := Lib.hid (show w.heap.size < W.heap.size ∧ R < w.heap.size ∧ R < w1.heap.size ∧ w.heap.size < w1.heap.size by have := HZ0.out; have := HZ1.out; omega)
  have HE3 := Lib.hid (HE2.out.off ho3 (by omega))
  have HX3 := Lib.hid (HX2.out.off ho3 (by have := HB1.out; omega))
  have HF3 := Lib.hid (ho3.cell HF2.out (by show w1.heap.size ≠ R; have := HB1.out; omega))
  have HO3 := Lib.hid (HO2.out.trans ho3)
  have HD3 := Lib.hid hd3
  clear hd3 ho3 HE0 HE2 HX2 HF2 HO2 HB2 HO0 HD0
  obtain ⟨a0, a1, a2, y0, y1, y2⟩ := HE3.out
  go_wp2_with fail
  clear a0 a1 a2 y0 y1 y2
  have hq4 := Off.set w.heap.size 0 w3 (.int .i64 v1)
  have HE4 := Lib.hid (HE3.out.set0 (.int .i64 v1))
  have HO4 := Lib.hid (HO3.out.setNew (p := ⟨w.heap.size, 0, none⟩) (Nat.le_refl _) (.int .i64 v1))
  have HD4 := Lib.hid (HD3.out.off hq4 (by omega))
  have HX4 := Lib.hid (HX3.out.off hq4 HB1.out.1)
  have HF4 := Lib.hid (hq4.cell HF3.out (by show w1.heap.size ≠ w.heap.size; have := HB1.out; omega))
  clear hq4 HE3 HO3 HD3 HX3 HF3
  generalize w3.setCell ⟨w.heap.size, 0, none⟩ (.int .i64 v1) = w4 at *
  refine (H2.out w.heap.size w1.heap.size W.heap.size w4 HD4.out (HC.out.offL HO4.out hne) HX4.out HE4.out.1 HF4.out).mono ?_
  rintro e w5 ⟨rfl, hd5, ho5⟩
  have HE5 := Lib.hid (HE4.out.off ho5 (by omega))
  have HO5 := Lib.hid (HO4.out.trans ho5)
  have HD5 := Lib.hid hd5
  clear hd5 ho5 HE4 HO4 HD4 HX4 HF4
  obtain ⟨a0, a1, a2, y0, y1, y2⟩ := HE5.out
  go_wp2_with fail
  clear a0 a1 a2 y0 y1 y2
  have hq6 := Off.set w.heap.size 1 w5 (.int .i64 v2)
  have HE6 := Lib.hid (HE5.out.set1 (.int .i64 v2))
  have HO6 := Lib.hid (HO5.out.setNew (p := ⟨w.heap.size, 1, none⟩) (Nat.le_refl _) (.int .i64 v2))
  have HD6 := Lib.hid (HD5.out.off hq6 (by omega))
  clear hq6 HE5 HO5 HD5
  generalize w5.setCell ⟨w.heap.size, 1, none⟩ (.int .i64 v2) = w6 at *
  refine (within_any 1 4294967296 2 w6).mono ?_
  rintro e w7 ⟨rfl, hx7, hb7, hz7⟩
  have HX7 := Lib.hid hx7
  have HE7 := Lib.hid (HE6.out.go hb7)
  have HO7 := Lib.hid (HO6.out.st hb7)
  have HD7 := Lib.hid (HD6.out.go hb7)
  clear hx7 hb7 hz7 HE6 HO6 HD6
  go_wp2_with fail
  refine (H3.out _ w7 HD7.out (HC.out.offL HO7.out hne) HX7.out).mono ?_
  rintro e w8 ⟨rfl, hd8, ho8⟩
  have HE8 := Lib.hid (HE7.out.off ho8 (by omega))
  have HO8 := Lib.hid (HO7.out.trans ho8)
  have HD8 := Lib.hid hd8
  clear hd8 ho8 HE7 HO7 HD7 HX7
  obtain ⟨a0, a1, a2, y0, y1, y2⟩ := HE8.out
  go_wp2
  have r0 := (((HE8.out.set2 (.int .u64 v3)).set0 (.int .i64 v1)).set1 (.int .i64 v2)).set2 (.int .u64 v3)
  obtain ⟨r0, r1, r2, -, -, -⟩ := r0
  refine bodyPost_ret (by simp [results, Tryd.results82, go_sem, r0, r1, r2]; try rfl) rfl ?_
  refine ⟨by rw [HF.out], ?_, ?_⟩
  · rw [HF.out]
    have d := HD8.out
    have q0 := Off.set w.heap.size 2 w8 (.int .u64 v3)
    exact (((d.off q0 (by omega)).off (Off.set _ _ _ _) (by omega)).off (Off.set _ _ _ _) (by omega)).off (Off.set _ _ _ _) (by omega)
  · exact (((HO8.out.setNew (Nat.le_refl _) _).setNew (Nat.le_refl _) _).setNew (Nat.le_refl _) _).setNew (Nat.le_refl _) _

end Go.Proofs.YtelcmkccfjdmjaaDoor
