/-
  The walk of the statement PathOrder.
-/
import Derived.Test.YtfjplphdkfiljaaProg
import Derived.Test.YtfjplphdkfiljaaSharedR
import Derived.Test.YtfjplphdkfiljaaRefCmp
import Derived.Test.YtfjplphdkfiljaaJoin
import Derived.Test.YtfjplphdkfiljaaSame
import Derived.Test.YtfjplphdkfiljaaPathLooks
namespace Go.Proofs.Ytfjplphdkfiljaa
open Go.Proofs Go.RowKit Go.Shelf

theorem calls_same {P : Program} {f : FuncId} {args : Array Value} {w : World} {v : Value}
    (h : Calls P f args w fun e w' => e = .returned v ∧ w = w') : Calls P f args w fun e w' => e = .returned v ∧ Below w.heap.size w w' :=
  h.mono fun _ _ ⟨he, hn⟩ => ⟨he, hn ▸ Below.refl _ _⟩

theorem sg8_start {W : World} {a0 a1 a2 a3 a4 a5 a6 a7 : Addr} {v0 v1 v2 v3 v4 v5 v6 v7 : Value} (h0 : W.cell? a0 = some v0) (h1 : W.cell? a1 = some v1) (h2 : W.cell? a2 = some v2) (h3 : W.cell? a3 = some v3) (h4 : W.cell? a4 = some v4) (h5 : W.cell? a5 = some v5) (h6 : W.cell? a6 = some v6) (h7 : W.cell? a7 = some v7) : W.drew.cell? a0 = some v0 ∧ W.drew.cell? a1 = some v1 ∧ W.drew.cell? a2 = some v2 ∧ W.drew.cell? a3 = some v3 ∧ W.drew.cell? a4 = some v4 ∧ W.drew.cell? a5 = some v5 ∧ W.drew.cell? a6 = some v6 ∧ W.drew.cell? a7 = some v7 ∧ Below W.heap.size W W.drew :=
  ⟨h0, h1, h2, h3, h4, h5, h6, h7, Below.of_dr W 1⟩
theorem sg8_next {W w1 w2 : World} {a0 a1 a2 a3 a4 a5 a6 a7 : Addr} {v0 v1 v2 v3 v4 v5 v6 v7 : Value} (hb : Below w1.heap.size w1 w2) (h : w1.cell? a0 = some v0 ∧ w1.cell? a1 = some v1 ∧ w1.cell? a2 = some v2 ∧ w1.cell? a3 = some v3 ∧ w1.cell? a4 = some v4 ∧ w1.cell? a5 = some v5 ∧ w1.cell? a6 = some v6 ∧ w1.cell? a7 = some v7 ∧ Below W.heap.size W w1) : w2.cell? a0 = some v0 ∧ w2.cell? a1 = some v1 ∧ w2.cell? a2 = some v2 ∧ w2.cell? a3 = some v3 ∧ w2.cell? a4 = some v4 ∧ w2.cell? a5 = some v5 ∧ w2.cell? a6 = some v6 ∧ w2.cell? a7 = some v7 ∧ Below W.heap.size W w2 := by
  obtain ⟨h0, h1, h2, h3, h4, h5, h6, h7, h8⟩ := h
  exact ⟨cell_later hb h0, cell_later hb h1, cell_later hb h2, cell_later hb h3, cell_later hb h4, cell_later hb h5, cell_later hb h6, cell_later hb h7, h8.st hb⟩

set_option maxRecDepth 100000 in
set_option maxHeartbeats 4000000 in
theorem PathOrder_yes (g : GD) (ao bo co : Option Addr) (cap ca cb : Nat) (la lb : List Int) (wa wb : Int) (w : World) (hl : g.es.length ≤ 9223372036854775807) (h1 : la.length ≤ 100) (h2 : lb.length ≤ 100) (hca : la.length ≤ ca)
    (hlight : ((decide (g.n ≤ 100) || decide (4096 < g.n)) && decide ((g.es.length : Int) ≤ 300)) = true)
    (hc : Cel w ao (flat g.es)) (hd : Cel w bo (la.map encI)) (he : Cel w co (lb.map encI)) :
    Calls Try.prog 7 #[.agg #[.int .i64 g.n, .slice ao g.es.length cap], .agg #[.slice bo la.length ca, .int .u64 wa], .agg #[.slice co lb.length cb, .int .u64 wb]] w fun e w' => e = .returned (.bool true) ∧ Below w.heap.size w w' := by
  have HC := Lib.hid hc
  have HA := Lib.hid hd
  have HE := Lib.hid he
  clear hc hd he
  have HL := Lib.hid (fun W => Light_any g ao cap W)
  rw [hlight] at HL
  clear hlight
  have X1 := Lib.hid (fun W h3 h4 => Join_any bo co ca cb la lb wa wb W (by omega) (by omega) h3 h4)
  have X2 := Lib.hid (fun W h3 h4 => calls_same (Less_any bo co ca cb la lb W (by omega) (by omega) h3 h4))
  have X3 := Lib.hid (fun W h3 h4 => refLess_any bo co ca cb la lb W (by omega) (by omega) h3 h4)
  have X4 := Lib.hid (fun W h3 h4 => Cmp_any bo co ca cb la lb wa wb W (by omega) (by omega) h3 h4)
  have X5 := Lib.hid (fun W h3 h4 => refCmp_any bo co ca cb la lb wa wb W (by omega) (by omega) h3 h4)
  have X6 := Lib.hid (fun W h3 h4 => Same_any bo co ca cb la lb wa wb W (by omega) (by omega) h3 h4)
  have X7 := Lib.hid (fun W h3 h4 h5 => Shared_any g ao bo co cap ca cb la lb W hl (by omega) (by omega) h3 h4 h5)
  have X8 := Lib.hid (fun W h3 h4 h5 => refShared_any g ao bo co cap ca cb la lb W hl (by omega) (by omega) hca h3 h4 h5)
  have X9 := Lib.hid (fun W h3 h4 => refJoin_any bo co ca cb la lb W (by omega) (by omega) h3 h4)
  have X10 := Lib.hid (fun x1 x2 q1 q2 W h3 h4 => calls_drew (sameInts_any x1 x2 q1 q2 (la ++ lb) (la ++ lb) W (by rw [List.length_append]; omega) (by rw [List.length_append]; omega) h3 h4))
  rw [show decide (la ++ lb = la ++ lb) = true from by simp] at X10
  have g1 : (decide ((100 : Int) < (la.length : Int))) = false := by simp; omega
  have g2 : (decide ((100 : Int) < (lb.length : Int))) = false := by simp; omega
  generalize lexI la lb = r1 at *
  generalize cmpR wa la wb lb = r2 at *
  generalize sharedG g la lb = r3 at *
  generalize (la ++ lb).length = nj at *
  go_enter Try.func7, Try.ntmps7
  go_wp2_with fail
  obtain ⟨W, hW, c0, c1, c2, c3, c4, c5, hsW⟩ : ∃ W, W = (((w.alloc (Obj.cells #[.int .i64 g.n, .slice ao g.es.length cap] 38)).alloc (Obj.cells #[.slice bo la.length ca, .int .u64 wa] 33)).alloc (Obj.cells #[.slice co lb.length cb, .int .u64 wb] 33)) ∧ W.cell? ⟨w.heap.size, 0, none⟩ = some (.int .i64 g.n) ∧ W.cell? ⟨w.heap.size, 1, none⟩ = some (.slice ao g.es.length cap) ∧ W.cell? ⟨w.heap.size + 1, 0, none⟩ = some (.slice bo la.length ca) ∧ W.cell? ⟨w.heap.size + 1, 1, none⟩ = some (.int .u64 wa) ∧ W.cell? ⟨w.heap.size + 1 + 1, 0, none⟩ = some (.slice co lb.length cb) ∧ W.cell? ⟨w.heap.size + 1 + 1, 1, none⟩ = some (.int .u64 wb) ∧ w.heap.size + 2 < W.heap.size := ⟨_, rfl, by go_simp, by go_simp, by go_simp, by go_simp, by go_simp, by go_simp, by simp⟩
  rw [← hW]
  have HW := Lib.hid (show Below w.heap.size w W by rw [hW]; repeat (first | exact Below.refl _ _ | refine Below.al ?_ _ | refine Below.dr ?_ _ | refine Below.drew ?_ | assumption | (refine Below.st ?_ (by assumption))))
  clear hW
  refine (HL.out _).mono ?_
  rintro e w1 ⟨rfl, hb1⟩
  have m0 := cell_later hb1 c0
  have m1 := cell_later hb1 c1
  have m2 := cell_later hb1 c2
  have m3 := cell_later hb1 c3
  have m4 := cell_later hb1 c4
  have m5 := cell_later hb1 c5
  have HW1 := Lib.hid (HW.out.st hb1)
  have hs1 : w.heap.size + 2 < w1.heap.size := by have := hb1.size; omega
  clear c0 c1 c2 c3 c4 c5 hb1 hsW HW
  go_wp2_with fail
  refine (X1.out _ (HA.out.go HW1.out) (HE.out.go HW1.out)).mono ?_
  rintro e w2 ⟨a2, p2, rfl, hc2, hb2⟩
  have c0 := cell_later hb2 m0
  have c1 := cell_later hb2 m1
  have c2 := cell_later hb2 m2
  have c3 := cell_later hb2 m3
  have c4 := cell_later hb2 m4
  have c5 := cell_later hb2 m5
  have HW2 := Lib.hid (HW1.out.st hb2)
  have hs2 : w.heap.size + 2 < w2.heap.size := by have := hb2.size; omega
  have CJ := Lib.hid hc2
  clear m0 m1 m2 m3 m4 m5 hb2 HW1 hs1 hc2
  generalize hwj : IntKind.u64.wrap (wa + wb) = wj at *
  go_wp2_with fail
  simp only [List.append]
  obtain ⟨W3, hW3, c0, c1, c2, c3, c4, c5, c6, c7⟩ : ∃ W3, W3 = w2.alloc (Obj.cells #[Value.slice a2 nj p2, Value.int IntKind.u64 wj] 33) ∧ W3.cell? ⟨w.heap.size, 0, none⟩ = some (.int .i64 g.n) ∧ W3.cell? ⟨w.heap.size, 1, none⟩ = some (.slice ao g.es.length cap) ∧ W3.cell? ⟨w.heap.size + 1, 0, none⟩ = some (.slice bo la.length ca) ∧ W3.cell? ⟨w.heap.size + 1, 1, none⟩ = some (.int .u64 wa) ∧ W3.cell? ⟨w.heap.size + 1 + 1, 0, none⟩ = some (.slice co lb.length cb) ∧ W3.cell? ⟨w.heap.size + 1 + 1, 1, none⟩ = some (.int .u64 wb) ∧ W3.cell? ⟨w2.heap.size, 0, none⟩ = some (.slice a2 nj p2) ∧ W3.cell? ⟨w2.heap.size, 1, none⟩ = some (.int .u64 wj) := ⟨_, rfl, cell_later (Below.of_al _ _) c0, cell_later (Below.of_al _ _) c1, cell_later (Below.of_al _ _) c2, cell_later (Below.of_al _ _) c3, cell_later (Below.of_al _ _) c4, cell_later (Below.of_al _ _) c5, by go_simp, by go_simp⟩
  rw [← hW3]
  have HW3 := Lib.hid (show Below w.heap.size w W3 by rw [hW3]; have := HW2.out; repeat (first | exact Below.refl _ _ | refine Below.al ?_ _ | refine Below.dr ?_ _ | refine Below.drew ?_ | assumption | (refine Below.st ?_ (by assumption))))
  have CJ3 := Lib.hid (CJ.out.go (show Below w2.heap.size w2 W3 by rw [hW3]; exact Below.of_al _ _))
  clear hW3 HW2 CJ hs2
  go_region_held3 (fun w' => w'.cell? ⟨w.heap.size, 0, none⟩ = some (.int .i64 g.n) ∧ w'.cell? ⟨w.heap.size, 1, none⟩ = some (.slice ao g.es.length cap) ∧ w'.cell? ⟨w.heap.size + 1, 0, none⟩ = some (.slice bo la.length ca) ∧ w'.cell? ⟨w.heap.size + 1, 1, none⟩ = some (.int .u64 wa) ∧ w'.cell? ⟨w.heap.size + 1 + 1, 0, none⟩ = some (.slice co lb.length cb) ∧ w'.cell? ⟨w.heap.size + 1 + 1, 1, none⟩ = some (.int .u64 wb) ∧ w'.cell? ⟨w2.heap.size, 0, none⟩ = some (.slice a2 nj p2) ∧ w'.cell? ⟨w2.heap.size, 1, none⟩ = some (.int .u64 wj) ∧ Below W3.heap.size W3 w') (first | exact sg8_start c0 c1 c2 c3 c4 c5 c6 c7 | exact sg8_next (by assumption) (by assumption)) (first
    | (go_at_call 36; refine (X2.out _ (HA.out.go (HW3.out.st (by go_split_ands; assumption))) (HE.out.go (HW3.out.st (by go_split_ands; assumption)))).mono ?_; rintro e v0 ⟨rfl, hz0⟩)
    | (go_at_call 37; refine (X3.out _ (HA.out.go (HW3.out.st (by go_split_ands; assumption))) (HE.out.go (HW3.out.st (by go_split_ands; assumption)))).mono ?_; rintro e v1 ⟨rfl, hz1⟩)
    | (go_at_call 20; refine (X4.out _ (HA.out.go (HW3.out.st (by go_split_ands; assumption))) (HE.out.go (HW3.out.st (by go_split_ands; assumption)))).mono ?_; rintro e v2 ⟨rfl, hz2⟩)
    | (go_at_call 38; refine (X5.out _ (HA.out.go (HW3.out.st (by go_split_ands; assumption))) (HE.out.go (HW3.out.st (by go_split_ands; assumption)))).mono ?_; rintro e v3 ⟨rfl, hz3⟩)
    | (go_at_call 39; refine (X6.out _ (HA.out.go (HW3.out.st (by go_split_ands; assumption))) (HE.out.go (HW3.out.st (by go_split_ands; assumption)))).mono ?_; rintro e v4 ⟨rfl, hz4⟩)
    | (go_at_call 40; refine (X7.out _ (HC.out.go (HW3.out.st (by go_split_ands; assumption))) (HA.out.go (HW3.out.st (by go_split_ands; assumption))) (HE.out.go (HW3.out.st (by go_split_ands; assumption)))).mono ?_; rintro e v5 ⟨rfl, hz5⟩)
    | (go_at_call 41; refine (X8.out _ (HC.out.go (HW3.out.st (by go_split_ands; assumption))) (HA.out.go (HW3.out.st (by go_split_ands; assumption))) (HE.out.go (HW3.out.st (by go_split_ands; assumption)))).mono ?_; rintro e v6 ⟨rfl, hz6⟩)
    | (go_at_call 42; refine (X9.out _ (HA.out.go (HW3.out.st (by go_split_ands; assumption))) (HE.out.go (HW3.out.st (by go_split_ands; assumption)))).mono ?_; rintro e v7 ⟨a9, p9, rfl, hc9, hz7⟩)
    | (go_at_call 26; refine (X10.out _ _ _ _ _ (CJ3.out.go (by go_split_ands; assumption)) hc9).mono ?_; rintro e v8 ⟨rfl, hz8⟩)
    | (go_at_call 19; refine (alive08_any _).mono ?_; rintro e v9 ⟨rfl, hz9⟩))
  go_wp2
  go_ret
  exact ⟨rfl, by have := HW3.out; repeat (first | exact Below.refl _ _ | refine Below.al ?_ _ | refine Below.dr ?_ _ | refine Below.drew ?_ | assumption | (refine Below.st ?_ (by assumption)))⟩

end Go.Proofs.Ytfjplphdkfiljaa
