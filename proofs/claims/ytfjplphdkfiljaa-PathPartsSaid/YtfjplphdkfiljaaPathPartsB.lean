/-
  The walk of the statement PathParts: all its cases.
-/
import Derived.Test.YtfjplphdkfiljaaProg
import Derived.Test.YtfjplphdkfiljaaPathPartsN
namespace Go.Proofs.Ytfjplphdkfiljaa
open Go.Proofs Go.RowKit Go.Shelf

set_option maxRecDepth 100000 in
set_option maxHeartbeats 1000000 in
theorem PathParts_any (g : GD) (ao al : Option Addr) (cap cb : Nat) (s t at' : Int) (l : List Int) (w : World) (hl : g.es.length ≤ 9223372036854775807) (hll : l.length ≤ 9223372036854775807) (hcb : l.length ≤ cb) (hnil : al = none → cb = 0)
    (hc : Cel w ao (flat g.es)) (hd : Cel w al (l.map encI)) :
    Calls Try.prog 8 #[.agg #[.int .i64 g.n, .slice ao g.es.length cap], .int .i64 s, .int .i64 t, .slice al l.length cb, .int .i64 at'] w fun e w' => e = .returned (.bool true) ∧ Below w.heap.size w w' := by
  have HL := Lib.hid (fun W => Light_any g ao cap W)
  cases hli : ((decide (g.n ≤ 100) || decide (4096 < g.n)) && decide ((g.es.length : Int) ≤ 300)) with
  | false =>
    rw [hli] at HL
    go_enter Try.func8, Try.ntmps8
    go_wp2_with fail
    refine (HL.out _).mono ?_
    rintro e w1 ⟨rfl, hb1⟩
    go_wp2_with (go_at_call 19; refine (alive08_any _).mono ?_; rintro e w2 ⟨rfl, hb2⟩)
    go_ret
    exact ⟨rfl, by repeat (first | exact Below.refl _ _ | refine Below.al ?_ _ | refine Below.dr ?_ _ | refine Below.drew ?_ | assumption | (refine Below.st ?_ (by assumption)))⟩
  | true =>
    by_cases h1 : l.length ≤ 200
    · cases his : isB g s t l with
      | false =>
        rw [hli] at HL
        have g1 : (decide ((200 : Int) < (l.length : Int))) = false := by simp; omega
        have g2 : ¬ (l.length : Int) > 200 := by omega
        have Y0 := Lib.hid (fun W h1 h2 => Is_any g ao al cap cb s t l W hl (by omega) h1 h2)
        rw [his] at Y0
        have HC := Lib.hid hc
        have HD := Lib.hid hd
        clear hc hd
        go_enter Try.func8, Try.ntmps8
        go_wp2_with fail
        obtain ⟨W, hW, c0, c1, hsW⟩ : ∃ W, W = w.alloc (Obj.cells #[.int .i64 g.n, .slice ao g.es.length cap] 38) ∧ W.cell? ⟨w.heap.size, 0, none⟩ = some (.int .i64 g.n) ∧ W.cell? ⟨w.heap.size, 1, none⟩ = some (.slice ao g.es.length cap) ∧ w.heap.size < W.heap.size := ⟨_, rfl, by go_simp, by go_simp, by simp⟩
        rw [← hW]
        have HW := Lib.hid (show Below w.heap.size w W by rw [hW]; repeat (first | exact Below.refl _ _ | refine Below.al ?_ _ | refine Below.dr ?_ _ | refine Below.drew ?_ | assumption | (refine Below.st ?_ (by assumption))))
        clear hW
        refine (HL.out _).mono ?_
        rintro e w1 ⟨rfl, hb1⟩
        have m0 := cell_later hb1 c0
        have m1 := cell_later hb1 c1
        have HW1 := Lib.hid (HW.out.st hb1)
        clear c0 c1 hb1 hsW HW
        go_wp2_with fail
        refine (Y0.out _ (HC.out.go HW1.out) (HD.out.go HW1.out)).mono ?_
        rintro e w2 ⟨rfl, hb2⟩
        go_wp2_with (go_at_call 19; refine (alive08_any _).mono ?_; rintro e w3 ⟨rfl, hb3⟩)
        go_ret
        exact ⟨rfl, (HW1.out.st hb2).st hb3⟩
      | true =>
        by_cases h2 : l = []
        · exact PathParts_nil g ao al cap cb s t at' l w hl h1 hcb h2 hnil hli his hc hd
        · have hpos : 0 < l.length := List.length_pos_iff.2 h2
          obtain ⟨b, o, rfl, _⟩ := hd 0 (.int .i64 l[0]) (by simp [hpos])
          exact PathParts_yes g ao b o cap cb s t at' l w hl h1 hcb hpos hli his hc hd
    · rw [hli] at HL
      have g1 : (decide ((200 : Int) < (l.length : Int))) = true := by simp; omega
      have g3 : (l.length : Int) > 200 := by omega
      go_enter Try.func8, Try.ntmps8
      go_wp2_with fail
      refine (HL.out _).mono ?_
      rintro e w1 ⟨rfl, hb1⟩
      go_wp2_with (go_at_call 19; refine (alive08_any _).mono ?_; rintro e w2 ⟨rfl, hb2⟩)
      go_ret
      exact ⟨rfl, by repeat (first | exact Below.refl _ _ | refine Below.al ?_ _ | refine Below.dr ?_ _ | refine Below.drew ?_ | assumption | (refine Below.st ?_ (by assumption)))⟩
end Go.Proofs.Ytfjplphdkfiljaa
