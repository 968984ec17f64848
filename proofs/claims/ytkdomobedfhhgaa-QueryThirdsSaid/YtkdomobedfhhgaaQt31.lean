/-
  Walk of package hier: is a shortcut an edge, is it two that lie ahead.
-/
import Derived.Test.YtkdomobedfhhgaaProg
import Derived.Test.YtkdomobedfhhgaaQt30
set_option linter.unusedVariables false
set_option linter.unusedSimpArgs false
set_option linter.unnecessarySimpa false
namespace Go.Proofs.Ytkdomobedfhhgaa
open Go Go.Proofs Go.RowKit Go.Shelf Go.Proofs.Ytkdomobedfhhgaa.Hp Go.Proofs.Ytkdomobedfhhgaa.Ch

theorem gedge_any (g : GD) (ao : Option Addr) (cap : Nat) (v : Int) (w : World) :
    Calls Try.prog 59 #[.agg #[.int .i64 g.n, .slice ao g.es.length cap], .int .i64 v] w fun e w' => e = .returned (.bool (edgeB g.es.length v)) ∧ Below w.heap.size w w' := by
  unfold edgeB
  go_enter Try.func59, Try.ntmps59
  go_wp2
  all_goals
    go_ret
    exact ⟨by simp [*] <;> omega, by repeat (first | exact Below.refl _ _ | refine Below.al ?_ _ | refine Below.dr ?_ _ | refine Below.drew ?_ | assumption | (refine Below.st ?_ (by assumption)))⟩



/-- is a shortcut an edge? -/
def edgeF (es : List EdgeD) (x : SC) : Bool := edgeB es.length x.e && (x.a == -1) && (x.b == -1) && (match es[x.e.toNat]? with | some y => (y.f == x.f) && (y.t == x.t) && (y.w == x.w) | none => false)
abbrev gV (n : Int) (ao : Option Addr) (m cap : Nat) : Value := .agg #[.int .i64 n, .slice ao m cap]

set_option maxRecDepth 100000 in
set_option maxHeartbeats 4000000 in
theorem edge_any (n : Int) (es : List EdgeD) (ao : Option Addr) (cap : Nat) (x : SC) (w : World) (hc : Cel w ao (flat es)) :
    Calls Try.prog 42 #[gV n ao es.length cap, scV x] w fun e w' => e = .returned (.bool (edgeF es x)) ∧ Below w.heap.size w w' := by
  have HG := Lib.hid (fun W => (show Calls Try.prog 59 #[gV n ao es.length cap, .int .i64 x.e] W (fun e w' => e = .returned (.bool (edgeB es.length x.e)) ∧ Below W.heap.size W w') from gedge_any ⟨n, es⟩ ao cap x.e W))
  obtain ⟨W, hW⟩ : ∃ W, W = (w.alloc (Obj.cells #[.int .i64 n, .slice ao es.length cap] 24)).alloc (Obj.cells #[.int .i64 x.f, .int .i64 x.t, .int .u64 x.w, .int .i64 x.e, .int .i64 x.a, .int .i64 x.b] 78) := ⟨_, rfl⟩
  have hbw : Below w.heap.size w W := by rw [hW]; exact (Below.of_al _ _).al _
  have c0 : W.cell? ⟨w.heap.size, 0, none⟩ = some (.int .i64 n) := by rw [hW]; go_simp
  have c1 : W.cell? ⟨w.heap.size, 1, none⟩ = some (.slice ao es.length cap) := by rw [hW]; go_simp
  have x0 : W.cell? ⟨w.heap.size + 1, 0, none⟩ = some (.int .i64 x.f) := by rw [hW]; go_simp
  have x1 : W.cell? ⟨w.heap.size + 1, 1, none⟩ = some (.int .i64 x.t) := by rw [hW]; go_simp
  have x2 : W.cell? ⟨w.heap.size + 1, 2, none⟩ = some (.int .u64 x.w) := by rw [hW]; go_simp
  have x3 : W.cell? ⟨w.heap.size + 1, 3, none⟩ = some (.int .i64 x.e) := by rw [hW]; go_simp
  have x4 : W.cell? ⟨w.heap.size + 1, 4, none⟩ = some (.int .i64 x.a) := by rw [hW]; go_simp
  have x5 : W.cell? ⟨w.heap.size + 1, 5, none⟩ = some (.int .i64 x.b) := by rw [hW]; go_simp
  have HW := Lib.hid hW
  have HB := Lib.hid hbw
  have HC := Lib.hid (hc.go hbw)
  clear hW hbw hc
  cases hE : edgeB es.length x.e with
  | false =>
    have HF := Lib.hid (show edgeF es x = false by unfold edgeF; rw [hE]; rfl)
    rw [hE] at HG
    clear hE
    go_enter Try.func42, Try.ntmps42
    go_upto_region 1 with (fail)
    rw [← HW.out]
    go_wp2_with (go_at_call 59; refine (HG.out _).mono ?_; rintro e w1 ⟨rfl, hb1⟩)
    go_ret
    exact ⟨by rw [HF.out]; rfl, HB.out.st hb1⟩
  | true =>
    rw [hE] at HG
    have hin : 0 ≤ x.e ∧ x.e < (es.length : Int) := by unfold edgeB at hE; simpa using hE
    cases hA : (x.a == -1) with
    | false =>
      have HF := Lib.hid (show edgeF es x = false by unfold edgeF; rw [hE, hA]; rfl)
      have hA2 : (x.a != -1) = true := by simp [bne, hA]
      clear hE hin
      go_enter Try.func42, Try.ntmps42
      go_upto_region 1 with (fail)
      rw [← HW.out]
      go_wp2_with (go_at_call 59; refine (HG.out _).mono ?_; rintro e w1 ⟨rfl, hb1⟩; (have x4' := cell_later hb1 x4); (have x5' := cell_later hb1 x5))
      go_ret
      exact ⟨by rw [HF.out]; rfl, HB.out.st hb1⟩
    | true =>
      have hA2 : (x.a != -1) = false := by simp [bne, hA]
      cases hBb : (x.b == -1) with
      | false =>
        have HF := Lib.hid (show edgeF es x = false by unfold edgeF; rw [hE, hA, hBb]; rfl)
        have hB2 : (x.b != -1) = true := by simp [bne, hBb]
        clear hE hin
        go_enter Try.func42, Try.ntmps42
        go_upto_region 1 with (fail)
        rw [← HW.out]
        go_wp2_with (go_at_call 59; refine (HG.out _).mono ?_; rintro e w1 ⟨rfl, hb1⟩; (have x4' := cell_later hb1 x4); (have x5' := cell_later hb1 x5))
        go_ret
        exact ⟨by rw [HF.out]; rfl, HB.out.st hb1⟩
      | true =>
        have hB2 : (x.b != -1) = false := by simp [bne, hBb]
        obtain ⟨k, hk⟩ : ∃ k : Nat, x.e = (k : Int) := ⟨x.e.toNat, by omega⟩
        have hkl : k < es.length := by omega
        have HF := Lib.hid (show edgeF es x = ((es[k].f == x.f) && (es[k].t == x.t) && (es[k].w == x.w)) by
          unfold edgeF
          rw [hE, hA, hBb, hk, Int.toNat_natCast, List.getElem?_eq_getElem hkl]
          simp)
        obtain ⟨eb, eo, rfl, e0, e1, e2⟩ := HC.out.edge hkl
        rw [hk] at x3 HG
        have HK := Lib.hid hk
        have hk0 : (0 : Int) ≤ (k : Int) := by omega
        have hk1 : (k : Int) < (es.length : Int) := by omega
        generalize es[k] = y at *
        clear hE hin hk HC
        go_enter Try.func42, Try.ntmps42
        go_upto_region 1 with (fail)
        rw [← HW.out]
        go_wp2_with (go_at_call 59; refine (HG.out _).mono ?_; rintro e w1 ⟨rfl, hb1⟩; (have c1' := cell_later hb1 c1); (have x0' := cell_later hb1 x0); (have x1' := cell_later hb1 x1); (have x2' := cell_later hb1 x2); (have x3' := cell_later hb1 x3); (have x4' := cell_later hb1 x4); (have x5' := cell_later hb1 x5); (have e0' := cell_later hb1 e0); (have e1' := cell_later hb1 e1); (have e2' := cell_later hb1 e2); (have HB1 := Lib.hid (HB.out.st hb1)); clear hb1)
        have HE := Lib.hid (show edgeF es x = ((y.f == x.f) && (y.t == x.t) && (y.w == x.w)) from HF.out)
        by_cases q1 : y.f = x.f <;> by_cases q2 : y.t = x.t <;> by_cases q3 : y.w = x.w
        all_goals
          go_quiet (fail)
          go_wp2
          go_ret
          exact ⟨by rw [HE.out]; simp [q1, q2, q3], HB1.out.dr _⟩

end Go.Proofs.Ytkdomobedfhhgaa
