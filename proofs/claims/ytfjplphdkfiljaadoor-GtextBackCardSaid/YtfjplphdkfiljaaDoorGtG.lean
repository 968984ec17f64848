/-
  The walk of the statement GtextPrints: whatever the graph, the law answers true.
-/
import Derived.Test.YtfjplphdkfiljaaDoorProg
import Derived.Test.YtfjplphdkfiljaaDoorGtF
import Derived.Test.YtfjplphdkfiljaaDoorSameD
namespace Go.Proofs.YtfjplphdkfiljaaDoor
open Go.Proofs Go.RowKit Go.Shelf Go.Sort

def lightB (g : GD) : Bool := (decide (g.n ≤ 100) || decide (g.n > 4096)) && decide ((g.es.length : Int) ≤ 300)

theorem Light_any (g : GD) (ao : Option Addr) (cap : Nat) (w : World) :
    Calls Tryd.prog 47 #[.agg #[.int .i64 g.n, .slice ao g.es.length cap]] w fun e w' => e = .returned (.bool (lightB g)) ∧ Below w.heap.size w w' := by
  unfold lightB
  by_cases h1 : g.n ≤ 100
  · go_enter Tryd.func47, Tryd.ntmps47
    go_wp2
    all_goals
      go_ret
      exact ⟨by simp [*] <;> omega, by repeat (first | exact Below.refl _ _ | refine Below.al ?_ _ | refine Below.dr ?_ _ | refine Below.drew ?_ | assumption | (refine Below.st ?_ (by assumption)))⟩
  · by_cases h2 : g.n > 4096
    · go_enter Tryd.func47, Tryd.ntmps47
      go_wp2
      all_goals
        go_ret
        exact ⟨by simp [*] <;> omega, by repeat (first | exact Below.refl _ _ | refine Below.al ?_ _ | refine Below.dr ?_ _ | refine Below.drew ?_ | assumption | (refine Below.st ?_ (by assumption)))⟩
    · go_enter Tryd.func47, Tryd.ntmps47
      go_wp2
      all_goals
        go_ret
        exact ⟨by simp [*] <;> omega, by repeat (first | exact Below.refl _ _ | refine Below.al ?_ _ | refine Below.dr ?_ _ | refine Below.drew ?_ | assumption | (refine Below.st ?_ (by assumption)))⟩

theorem printI_one {d : Nat} (h : d < 10) : printI (d : Int) = ⟨#[UInt8.ofNat (48 + d)]⟩ := by
  unfold printI
  rw [show ((d : Int)).toNat = d from rfl, Lib.decDigits_one h]

theorem const_w : wordsG ⟨2, [⟨0, 1, 5⟩]⟩ = ([⟨#[50]⟩, ⟨#[49]⟩, ⟨#[48]⟩, ⟨#[49]⟩, ⟨#[53]⟩], 0) := by
  have h0 : printI 0 = ⟨#[48]⟩ := printI_one (d := 0) (by decide)
  have h1 : printI 1 = ⟨#[49]⟩ := printI_one (d := 1) (by decide)
  have h2 : printI 2 = ⟨#[50]⟩ := printI_one (d := 2) (by decide)
  have h5 : printI 5 = ⟨#[53]⟩ := printI_one (d := 5) (by decide)
  unfold wordsG
  rw [if_neg (by decide), if_neg (by decide)]
  show ([printI 2, printI 1] ++ [printI 0, printI 1, printI 5], (0 : Int)) = _
  rw [h0, h1, h2, h5]
  rfl

set_option maxHeartbeats 1000000 in
theorem alive06_any (w : World) (hp : Pow10 w) : Calls Tryd.prog 48 #[] w fun e w' => e = .returned (.bool true) ∧ Below w.heap.size w w' := by
  have HT := Lib.hid hp
  have HG := Lib.hid (fun ao W h1 h2 => GWords_any ⟨2, [⟨0, 1, 5⟩]⟩ ao 1 W (by decide) h1 h2)
  rw [const_w] at HG
  clear hp
  go_enter Tryd.func48, Tryd.ntmps48
  go_wp2_with (first
    | (go_at_call 49; refine (HG.out (some ⟨w.heap.size, 0, none⟩) _ (cel_new _ _ _ _) (tabIs_go HT.out (Below.of_al _ _))).mono ?_; rintro e w1 ⟨a1, p1, rfl, hc1, hb1⟩; (have HC1 := Lib.hid hc1; have HB1 := Lib.hid (show Below w.heap.size w w1 by repeat (first | exact Below.refl _ _ | refine Below.al ?_ _ | refine Below.dr ?_ _ | refine Below.drew ?_ | assumption | (refine Below.st ?_ (by assumption)))); clear hc1 hb1))
    | (go_at_call 53; refine (sameWords_any _ _ _ _ [⟨#[50]⟩, ⟨#[49]⟩, ⟨#[48]⟩, ⟨#[49]⟩, ⟨#[53]⟩] [⟨#[50]⟩, ⟨#[49]⟩, ⟨#[48]⟩, ⟨#[49]⟩, ⟨#[53]⟩] _ (by decide) (by decide) (HC1.out.go (Below.of_al _ _)) (cel_new _ _ _ _)).mono ?_; rintro e w3 ⟨rfl, n3, rfl⟩))
  go_ret
  exact ⟨by first | rfl | simp, by have := HB1.out; exact (this.al _).trans (below_drewN (Below.refl _ _) _)⟩

set_option maxHeartbeats 2000000 in
theorem GtextPrints_any (g : GD) (ao : Option Addr) (cap : Nat) (w : World) (hl : g.es.length ≤ 9223372036854775807) (hc : Cel w ao (flat g.es)) (hp : Pow10 w) :
    Calls Tryd.prog 10 #[.agg #[.int .i64 g.n, .slice ao g.es.length cap]] w fun e w' => e = .returned (.bool true) ∧ Below w.heap.size w w' := by
  have HC := Lib.hid hc
  have HT := Lib.hid hp
  have HL := Lib.hid (fun W => Light_any g ao cap W)
  have HA := Lib.hid (fun W h => alive06_any W h)
  have H1 := Lib.hid (fun W h h' => GWords_any g ao cap W hl h h')
  have H2 := Lib.hid (fun W h => refGWords_any g ao cap W hl h)
  have H3 := Lib.hid (fun W h h' => GPrint_any g ao cap W hl h h')
  have H4 := Lib.hid (fun W h => refGPrint_any g ao cap W hl h)
  have hwl : (wordsG g).1.length ≤ 9223372036854775807 := by
    unfold wordsG
    split
    · simp
    · split
      · simp
      · rw [show ((wordsK g g.es.length, (0 : Int)) : List ByteArray × Int).1 = wordsK g g.es.length from rfl, wordsK_length g _ (Nat.le_refl _)]
        omega
  generalize wordsG g = r1 at *
  generalize printG g = r2 at *
  obtain ⟨l1, f1⟩ := r1
  obtain ⟨s2, f2⟩ := r2
  simp only at H3 H4 hwl
  clear hc hp
  cases h : lightB g with
  | false =>
    rw [h] at HL
    clear h H1 H2 H3 H4
    go_enter Tryd.func10, Tryd.ntmps10
    go_wp2_with fail
    obtain ⟨W, hW, c0, c1, hsW⟩ : ∃ W, W = w.alloc (Obj.cells #[.int .i64 g.n, .slice ao g.es.length cap] 52) ∧ W.cell? ⟨w.heap.size, 0, none⟩ = some (.int .i64 g.n) ∧ W.cell? ⟨w.heap.size, 1, none⟩ = some (.slice ao g.es.length cap) ∧ w.heap.size < W.heap.size := ⟨_, rfl, by go_simp, by go_simp, by simp⟩
    rw [← hW]
    have HW := Lib.hid (show Below w.heap.size w W by rw [hW]; repeat (first | exact Below.refl _ _ | refine Below.al ?_ _ | refine Below.dr ?_ _ | refine Below.drew ?_ | assumption | (refine Below.st ?_ (by assumption))))
    clear hW
    go_wp2_with (first
      | (go_at_call 47; refine (HL.out _).mono ?_; rintro e w1 ⟨rfl, hb1⟩; (have HB1 := Lib.hid (HW.out.st hb1); clear hb1))
      | (go_at_call 48; refine (HA.out _ (tabIs_go HT.out HB1.out)).mono ?_; rintro e w2 ⟨rfl, hb2⟩))
    go_ret
    exact ⟨rfl, HB1.out.st hb2⟩
  | true =>
    rw [h] at HL
    clear h
    go_enter Tryd.func10, Tryd.ntmps10
    go_wp2_with fail
    obtain ⟨W, hW, c0, c1, hsW⟩ : ∃ W, W = w.alloc (Obj.cells #[.int .i64 g.n, .slice ao g.es.length cap] 52) ∧ W.cell? ⟨w.heap.size, 0, none⟩ = some (.int .i64 g.n) ∧ W.cell? ⟨w.heap.size, 1, none⟩ = some (.slice ao g.es.length cap) ∧ w.heap.size < W.heap.size := ⟨_, rfl, by go_simp, by go_simp, by simp⟩
    rw [← hW]
    have HW := Lib.hid (show Below w.heap.size w W by rw [hW]; repeat (first | exact Below.refl _ _ | refine Below.al ?_ _ | refine Below.dr ?_ _ | refine Below.drew ?_ | assumption | (refine Below.st ?_ (by assumption))))
    clear hW
    go_wp2_with (first
      | (go_at_call 47; refine (HL.out _).mono ?_; rintro e w1 ⟨rfl, hb1⟩; have c0a := cell_later hb1 c0; have c1a := cell_later hb1 c1; (have HB1 := Lib.hid (HW.out.st hb1); clear hb1))
      | (go_at_call 49; refine (H1.out _ (HC.out.go HB1.out) (tabIs_go HT.out HB1.out)).mono ?_; rintro e w2 ⟨a2, p2, rfl, hc2, hb2⟩; have c0b := cell_later hb2 c0a; have c1b := cell_later hb2 c1a; (have HB2 := Lib.hid (HB1.out.st hb2); have HC2 := Lib.hid hc2; clear hb2 hc2))
      | (go_at_call 50; refine (H2.out _ (HC.out.go HB2.out)).mono ?_; rintro e w3 ⟨a3, p3, rfl, hc3, hb3⟩; have c0c := cell_later hb3 c0b; have c1c := cell_later hb3 c1b; (have HB3 := Lib.hid (HB2.out.st hb3); have HC3 := Lib.hid hc3; have HD3 := Lib.hid (HC2.out.go hb3); clear hb3 hc3))
      | (go_at_call 51; refine (H3.out _ (HC.out.go HB3.out) (tabIs_go HT.out HB3.out)).mono ?_; rintro e w4 ⟨rfl, hb4⟩; have c0d := cell_later hb4 c0c; have c1d := cell_later hb4 c1c; (have HB4 := Lib.hid (HB3.out.st hb4); have HC4 := Lib.hid (HC3.out.go hb4); have HD4 := Lib.hid (HD3.out.go hb4); clear hb4))
      | (go_at_call 52; refine (H4.out _ (HC.out.go HB4.out)).mono ?_; rintro e w5 ⟨rfl, hb5⟩; (have HB5 := Lib.hid (HB4.out.st hb5); have HC5 := Lib.hid (HC4.out.go hb5); have HD5 := Lib.hid (HD4.out.go hb5); clear hb5))
      | (go_at_call 53; refine (sameWords_any _ _ _ _ l1 l1 _ hwl hwl HD5.out HC5.out).mono ?_; rintro e w6 ⟨rfl, n6, rfl⟩; rw [decide_eq_true (rfl : l1 = l1)])
      | (go_at_call 48; refine (HA.out _ (tabIs_go HT.out (HB5.out.dr n6))).mono ?_; rintro e w7 ⟨rfl, hb7⟩))
    go_ret
    exact ⟨by first | rfl | simp, (HB5.out.dr n6).st hb7⟩

end Go.Proofs.YtfjplphdkfiljaaDoor
