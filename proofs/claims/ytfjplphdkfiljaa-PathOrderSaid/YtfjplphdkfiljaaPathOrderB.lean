/-
  The walk of the statement PathOrder: all its cases.
-/
import Derived.Test.YtfjplphdkfiljaaProg
import Derived.Test.YtfjplphdkfiljaaPathOrder
namespace Go.Proofs.Ytfjplphdkfiljaa
open Go.Proofs Go.RowKit Go.Shelf

set_option maxRecDepth 100000 in
set_option maxHeartbeats 1000000 in
theorem PathOrder_any (g : GD) (ao bo co : Option Addr) (cap ca cb : Nat) (la lb : List Int) (wa wb : Int) (w : World) (hl : g.es.length ≤ 9223372036854775807) (hla : la.length ≤ 9223372036854775807) (hlb : lb.length ≤ 9223372036854775807) (hca : la.length ≤ ca)
    (hc : Cel w ao (flat g.es)) (hd : Cel w bo (la.map encI)) (he : Cel w co (lb.map encI)) :
    Calls Try.prog 7 #[.agg #[.int .i64 g.n, .slice ao g.es.length cap], .agg #[.slice bo la.length ca, .int .u64 wa], .agg #[.slice co lb.length cb, .int .u64 wb]] w fun e w' => e = .returned (.bool true) ∧ Below w.heap.size w w' := by
  have HL := Lib.hid (fun W => Light_any g ao cap W)
  cases hli : ((decide (g.n ≤ 100) || decide (4096 < g.n)) && decide ((g.es.length : Int) ≤ 300)) with
  | false =>
    rw [hli] at HL
    go_enter Try.func7, Try.ntmps7
    go_wp2_with fail
    refine (HL.out _).mono ?_
    rintro e w1 ⟨rfl, hb1⟩
    have m2 := cell_later hb1 (a := ⟨w.heap.size + 1, 0, none⟩) (v := .slice bo la.length ca) (by go_simp)
    have m4 := cell_later hb1 (a := ⟨w.heap.size + 1 + 1, 0, none⟩) (v := .slice co lb.length cb) (by go_simp)
    go_wp2_with (go_at_call 19; refine (alive08_any _).mono ?_; rintro e w2 ⟨rfl, hb2⟩)
    go_ret
    exact ⟨rfl, by repeat (first | exact Below.refl _ _ | refine Below.al ?_ _ | refine Below.dr ?_ _ | refine Below.drew ?_ | assumption | (refine Below.st ?_ (by assumption)))⟩
  | true =>
    by_cases h1 : la.length ≤ 100
    · by_cases h2 : lb.length ≤ 100
      · exact PathOrder_yes g ao bo co cap ca cb la lb wa wb w hl h1 h2 hca hli hc hd he
      · rw [hli] at HL
        have g1 : (decide ((100 : Int) < (la.length : Int))) = false := by simp; omega
        have g2 : (decide ((100 : Int) < (lb.length : Int))) = true := by simp; omega
        have g3 : (lb.length : Int) > 100 := by omega
        have g4 : ¬ (la.length : Int) > 100 := by omega
        go_enter Try.func7, Try.ntmps7
        go_wp2_with fail
        refine (HL.out _).mono ?_
        rintro e w1 ⟨rfl, hb1⟩
        have m2 := cell_later hb1 (a := ⟨w.heap.size + 1, 0, none⟩) (v := .slice bo la.length ca) (by go_simp)
        have m4 := cell_later hb1 (a := ⟨w.heap.size + 1 + 1, 0, none⟩) (v := .slice co lb.length cb) (by go_simp)
        go_wp2_with (go_at_call 19; refine (alive08_any _).mono ?_; rintro e w2 ⟨rfl, hb2⟩)
        go_ret
        exact ⟨rfl, by repeat (first | exact Below.refl _ _ | refine Below.al ?_ _ | refine Below.dr ?_ _ | refine Below.drew ?_ | assumption | (refine Below.st ?_ (by assumption)))⟩
    · rw [hli] at HL
      have g1 : (decide ((100 : Int) < (la.length : Int))) = true := by simp; omega
      have g3 : (la.length : Int) > 100 := by omega
      go_enter Try.func7, Try.ntmps7
      go_wp2_with fail
      refine (HL.out _).mono ?_
      rintro e w1 ⟨rfl, hb1⟩
      have m2 := cell_later hb1 (a := ⟨w.heap.size + 1, 0, none⟩) (v := .slice bo la.length ca) (by go_simp)
      have m4 := cell_later hb1 (a := ⟨w.heap.size + 1 + 1, 0, none⟩) (v := .slice co lb.length cb) (by go_simp)
      go_wp2_with (go_at_call 19; refine (alive08_any _).mono ?_; rintro e w2 ⟨rfl, hb2⟩)
      go_ret
      exact ⟨rfl, by repeat (first | exact Below.refl _ _ | refine Below.al ?_ _ | refine Below.dr ?_ _ | refine Below.drew ?_ | assumption | (refine Below.st ?_ (by assumption)))⟩

end Go.Proofs.Ytfjplphdkfiljaa
