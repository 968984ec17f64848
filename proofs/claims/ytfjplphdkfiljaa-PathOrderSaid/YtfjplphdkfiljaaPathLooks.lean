/-
  The walk of the statement PathLooks.
-/
import Derived.Test.YtfjplphdkfiljaaProg
import Derived.Test.YtfjplphdkfiljaaSimple
import Derived.Test.YtfjplphdkfiljaaCmp
import Derived.Test.YtfjplphdkfiljaaSame
namespace Go.Proofs.Ytfjplphdkfiljaa
open Go.Proofs Go.RowKit Go.Shelf

/-- the worlds of a region that reads a graph's box -/
theorem sg_start {W : World} {a0 a1 : Addr} {v0 v1 : Value} (h0 : W.cell? a0 = some v0) (h1 : W.cell? a1 = some v1) : W.drew.cell? a0 = some v0 ∧ W.drew.cell? a1 = some v1 ∧ Below W.heap.size W W.drew := ⟨h0, h1, Below.of_dr W 1⟩
theorem sg_next {W w1 w2 : World} {a0 a1 : Addr} {v0 v1 : Value} (hb : Below w1.heap.size w1 w2) (h : w1.cell? a0 = some v0 ∧ w1.cell? a1 = some v1 ∧ Below W.heap.size W w1) : w2.cell? a0 = some v0 ∧ w2.cell? a1 = some v1 ∧ Below W.heap.size W w2 :=
  ⟨cell_later hb h.1, cell_later hb h.2.1, h.2.2.st hb⟩
theorem calls_drew {P : Program} {f : FuncId} {args : Array Value} {w : World} {v : Value}
    (h : Calls P f args w fun e w' => e = .returned v ∧ ∃ n, w' = w.drewN n) : Calls P f args w fun e w' => e = .returned v ∧ Below w.heap.size w w' :=
  h.mono fun _ _ ⟨he, n, hn⟩ => ⟨he, hn ▸ Below.of_dr _ n⟩

set_option maxRecDepth 100000 in
set_option maxHeartbeats 4000000 in
theorem PathLooks_any (g : GD) (ao bo : Option Addr) (cap cb : Nat) (s t : Int) (l : List Int) (w : World) (hl : g.es.length ≤ 9223372036854775807) (hll : l.length ≤ 9223372036854775807) (hc : Cel w ao (flat g.es)) (hd : Cel w bo (l.map encI)) :
    Calls Try.prog 5 #[.agg #[.int .i64 g.n, .slice ao g.es.length cap], .int .i64 s, .int .i64 t, .slice bo l.length cb] w fun e w' => e = .returned (.bool true) ∧ Below w.heap.size w w' := by
  have HC := Lib.hid hc
  have HD := Lib.hid hd
  clear hc hd
  have HL := Lib.hid (fun W => Light_any g ao cap W)
  generalize ((decide (g.n ≤ 100) || decide (4096 < g.n)) && decide ((g.es.length : Int) ≤ 300)) = lb at HL
  by_cases hb : lb = true ∧ l.length ≤ 200
  · obtain ⟨rfl, h200⟩ := hb
    have X1 := Lib.hid (fun W h1 h2 => Nodes_any g ao bo cap cb s l W hl (by omega) h1 h2)
    have X2 := Lib.hid (fun W h1 h2 => refNodes_any g ao bo cap cb s l W hl (by omega) h1 h2)
    have X3 := Lib.hid (fun W h1 h2 => Weight_any g ao bo cap cb l W hl (by omega) h1 h2)
    have X4 := Lib.hid (fun W h1 h2 => refWeight_any g ao bo cap cb l W hl (by omega) h1 h2)
    have X5 := Lib.hid (fun W h1 h2 => Is_any g ao bo cap cb s t l W hl (by omega) h1 h2)
    have X6 := Lib.hid (fun W h1 h2 => refIs_any g ao bo cap cb s t l W hl (by omega) h1 h2)
    have X7 := Lib.hid (fun W h1 h2 => Simple_any g ao bo cap cb s l W hl (by omega) h1 h2)
    have X8 := Lib.hid (fun W h1 h2 => refSimple_any g ao bo cap cb s l W hl (by omega) h1 h2)
    have X9 := Lib.hid (fun W h1 h2 => Offsets_any g ao bo cap cb l W hl (by omega) h1 h2)
    have X10 := Lib.hid (fun W h1 h2 => refOffsets_any g ao bo cap cb l W hl (by omega) h1 h2)
    have hO : ((nodesG g s l).getD []).length ≤ 201 := by
      cases hr : nodesG g s l with
      | none => simp
      | some O => have := nodesG_length hr; simp; omega
    have hF : ((offG g l).getD []).length ≤ 201 := by
      unfold offG
      split
      · simp [offF_length]; omega
      · simp
    have hg2 : ((l.length : Int) > 200) = False := by simp; omega
    have hg3 : decide ((200 : Int) < (l.length : Int)) = false := by simp; omega
    generalize nodesG g s l = rn at *
    generalize weightG g l = rw at *
    generalize offG g l = ro at *
    generalize isB g s t l = b1 at *
    generalize simpleB g s l = b2 at *
    go_enter Try.func5, Try.ntmps5
    go_wp2_with fail
    obtain ⟨W, hW, c0, c1, hsW⟩ : ∃ W, W = w.alloc (Obj.cells #[.int .i64 g.n, .slice ao g.es.length cap] 38) ∧ W.cell? ⟨w.heap.size, 0, none⟩ = some (.int .i64 g.n) ∧ W.cell? ⟨w.heap.size, 1, none⟩ = some (.slice ao g.es.length cap) ∧ w.heap.size < W.heap.size := ⟨_, rfl, by go_simp, by go_simp, by simp⟩
    rw [← hW]
    have HW := Lib.hid (show Below w.heap.size w W by rw [hW]; repeat (first | exact Below.refl _ _ | refine Below.al ?_ _ | refine Below.dr ?_ _ | refine Below.drew ?_ | assumption | (refine Below.st ?_ (by assumption))))
    clear hW
    refine (HL.out _).mono ?_
    rintro e w1 ⟨rfl, hb1⟩
    have m0 := cell_later hb1 c0
    have m1 := cell_later hb1 c1
    have HW1 := Lib.hid (HW.out.st hb1)
    clear c0 c1 hb1 hsW HW
    go_wp2_with fail
    refine (X1.out _ (HC.out.go HW1.out) (HD.out.go HW1.out)).mono ?_
    rintro e w2 ⟨a2, p2, rfl, hca, hb2, -⟩
    have c0 := cell_later hb2 m0
    have c1 := cell_later hb2 m1
    have HW2 := Lib.hid (HW1.out.st hb2)
    have CA := Lib.hid hca
    clear m0 m1 hb2 HW1 hca
    go_wp2_with fail
    refine (X2.out _ (HC.out.go HW2.out) (HD.out.go HW2.out)).mono ?_
    rintro e w3 ⟨a3, p3, rfl, hcb, hb3, -⟩
    have m0 := cell_later hb3 c0
    have m1 := cell_later hb3 c1
    have HW3 := Lib.hid (HW2.out.st hb3)
    have CA3 := Lib.hid (CA.out.go hb3)
    have CB3 := Lib.hid hcb
    clear c0 c1 hb3 HW2 hcb CA
    go_wp2_with fail
    refine (X3.out _ (HC.out.go HW3.out) (HD.out.go HW3.out)).mono ?_
    rintro e w4 ⟨rfl, hb4⟩
    have c0 := cell_later hb4 m0
    have c1 := cell_later hb4 m1
    have HW4 := Lib.hid (HW3.out.st hb4)
    have CA4 := Lib.hid (CA3.out.go hb4)
    have CB4 := Lib.hid (CB3.out.go hb4)
    clear m0 m1 hb4 HW3 CA3 CB3
    go_wp2_with fail
    refine (X4.out _ (HC.out.go HW4.out) (HD.out.go HW4.out)).mono ?_
    rintro e w5 ⟨rfl, hb5⟩
    have m0 := cell_later hb5 c0
    have m1 := cell_later hb5 c1
    have HW5 := Lib.hid (HW4.out.st hb5)
    have CA5 := Lib.hid (CA4.out.go hb5)
    have CB5 := Lib.hid (CB4.out.go hb5)
    clear c0 c1 hb5 HW4 CA4 CB4
    have Y1 := Lib.hid (fun W h1 h2 => calls_drew (sameInts_any a2 a3 p2 p3 (rn.getD []) (rn.getD []) W (by omega) (by omega) h1 h2))
    rw [show decide (rn.getD [] = rn.getD []) = true from by simp] at Y1
    have Y2 := Lib.hid (fun x1 x2 q1 q2 W h1 h2 => calls_drew (sameWide_any x1 x2 q1 q2 (ro.getD []) (ro.getD []) W (by omega) (by omega) h1 h2))
    rw [show decide (ro.getD [] = ro.getD []) = true from by simp] at Y2
    generalize (rn.getD []).length = nn at *
    generalize rn.isSome = bn at *
    generalize rw.isSome = bw at *
    generalize rw.getD 0 = xw at *
    go_wp2_with fail

    go_region_held3 (fun w' => w'.cell? ⟨w.heap.size, 0, none⟩ = some (.int .i64 g.n) ∧ w'.cell? ⟨w.heap.size, 1, none⟩ = some (.slice ao g.es.length cap) ∧ Below w5.heap.size w5 w') (first | exact sg_start m0 m1 | exact sg_next (by assumption) (by assumption)) (first
      | (go_at_call 26; refine (Y1.out _ (CA5.out.go (by go_split_ands; assumption)) (CB5.out.go (by go_split_ands; assumption))).mono ?_; rintro e v1 ⟨rfl, hz1⟩)
      | (go_at_call 27; refine (X5.out _ (HC.out.go (HW5.out.st (by go_split_ands; assumption))) (HD.out.go (HW5.out.st (by go_split_ands; assumption)))).mono ?_; rintro e v2 ⟨rfl, hz2⟩)
      | (go_at_call 28; refine (X6.out _ (HC.out.go (HW5.out.st (by go_split_ands; assumption))) (HD.out.go (HW5.out.st (by go_split_ands; assumption)))).mono ?_; rintro e v3 ⟨rfl, hz3⟩)
      | (go_at_call 29; refine (X7.out _ (HC.out.go (HW5.out.st (by go_split_ands; assumption))) (HD.out.go (HW5.out.st (by go_split_ands; assumption)))).mono ?_; rintro e v4 ⟨rfl, hz4⟩)
      | (go_at_call 30; refine (X8.out _ (HC.out.go (HW5.out.st (by go_split_ands; assumption))) (HD.out.go (HW5.out.st (by go_split_ands; assumption)))).mono ?_; rintro e v5 ⟨rfl, hz5⟩)
      | (go_at_call 32; refine (X9.out _ (HC.out.go (HW5.out.st (by go_split_ands; assumption))) (HD.out.go (HW5.out.st (by go_split_ands; assumption)))).mono ?_; rintro e v6 ⟨a6, p6, rfl, hc6, hz6, -⟩)
      | (go_at_call 33; refine (X10.out _ (HC.out.go (HW5.out.st (by go_split_ands; assumption))) (HD.out.go (HW5.out.st (by go_split_ands; assumption)))).mono ?_; rintro e v7 ⟨a7, p7, rfl, hc7, hz7, -⟩)
      | (go_at_call 31; refine (Y2.out _ _ _ _ _ (hc6.go hz7) hc7).mono ?_; rintro e v8 ⟨rfl, hz8⟩)
      | (go_at_call 19; refine (alive08_any _).mono ?_; rintro e v9 ⟨rfl, hz9⟩))
    go_wp2
    go_ret
    exact ⟨rfl, by have := HW5.out; repeat (first | exact Below.refl _ _ | refine Below.al ?_ _ | refine Below.dr ?_ _ | refine Below.drew ?_ | assumption | (refine Below.st ?_ (by assumption)))⟩
  · by_cases h1 : lb = true
    · have h2 : 200 < l.length := Nat.lt_of_not_le fun h => hb ⟨h1, h⟩
      subst h1
      go_enter Try.func5, Try.ntmps5
      go_wp2_with fail
      refine (HL.out _).mono ?_
      rintro e w1 ⟨rfl, hb1⟩
      go_wp2_with (go_at_call 19; refine (alive08_any _).mono ?_; rintro e w2 ⟨rfl, hb2⟩)
      go_ret
      exact ⟨rfl, by repeat (first | exact Below.refl _ _ | refine Below.al ?_ _ | refine Below.dr ?_ _ | refine Below.drew ?_ | assumption | (refine Below.st ?_ (by assumption)))⟩
    · obtain rfl : lb = false := by simpa using h1
      go_enter Try.func5, Try.ntmps5
      go_wp2_with fail
      refine (HL.out _).mono ?_
      rintro e w1 ⟨rfl, hb1⟩
      go_wp2_with (go_at_call 19; refine (alive08_any _).mono ?_; rintro e w2 ⟨rfl, hb2⟩)
      go_ret
      exact ⟨rfl, by repeat (first | exact Below.refl _ _ | refine Below.al ?_ _ | refine Below.dr ?_ _ | refine Below.drew ?_ | assumption | (refine Below.st ?_ (by assumption)))⟩

end Go.Proofs.Ytfjplphdkfiljaa
