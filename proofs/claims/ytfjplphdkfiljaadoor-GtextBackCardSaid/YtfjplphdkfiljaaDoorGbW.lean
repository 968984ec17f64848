/-
  The walk of the statement GtextBack: whatever the graph and the words, the law answers true.
-/
import Derived.Test.YtfjplphdkfiljaaDoorProg
import Derived.Test.YtfjplphdkfiljaaDoorGtG
import Derived.Test.YtfjplphdkfiljaaDoorGpD
import Derived.Test.YtfjplphdkfiljaaDoorGpS
import Derived.Test.YtfjplphdkfiljaaDoorGbRead
namespace Go.Proofs.YtfjplphdkfiljaaDoor
open Go.Proofs Go.RowKit Go.Shelf Go.Sort

theorem wordsG_ok {g : GD} (h : rightG g = 0) (hm : g.es.length ≤ 400) : wordsG g = (wordsK g g.es.length, 0) := by
  unfold wordsG
  rw [if_neg (by simp [h]), if_neg (by omega)]
theorem wordsG_bad {g : GD} (h : rightG g ≠ 0) : wordsG g = ([], 1) := by
  unfold wordsG
  rw [if_pos h]
theorem printG_ok {g : GD} (h : rightG g = 0) : printG g = (textK g g.es.length, 0) := by
  unfold printG
  rw [if_neg (by simp [h])]
theorem words_size {g : GD} (h : rightG g = 0) : ∀ x ∈ wordsK g g.es.length, x.size ≤ 20 := by
  obtain ⟨h1, h2, h3, h4⟩ := right_edge h
  intro x hx
  unfold wordsK at hx
  rw [List.take_length, List.mem_append] at hx
  rcases hx with hx | hx
  · simp only [List.mem_cons, List.not_mem_nil, or_false] at hx
    rcases hx with rfl | rfl
    · exact printI_size_le (by omega) (by omega)
    · exact printI_size_le (by omega) (by omega)
  · obtain ⟨e, he, hx⟩ := List.mem_flatMap.1 hx
    obtain ⟨a, b, c, d, -, y, z⟩ := h4 e he
    simp only [ofE, List.mem_cons, List.not_mem_nil, or_false] at hx
    rcases hx with rfl | rfl | rfl
    · exact printI_size_le (by omega) (by omega)
    · exact printI_size_le (by omega) (by omega)
    · exact printI_size_le (by omega) (by omega)

set_option maxRecDepth 100000 in
set_option maxHeartbeats 8000000 in
theorem GtextBack_any (g : GD) (l : List ByteArray) (ao lo : Option Addr) (cap lcap : Nat) (w : World) (hgl : g.es.length ≤ 9223372036854775807) (hl : l.length ≤ 9223372036854775807) (hc : Cel w ao (flat g.es)) (hlc : Cel w lo (l.map encS)) (hp : Pow10 w) :
    Calls Tryd.prog 14 #[.agg #[.int .i64 g.n, .slice ao g.es.length cap], .slice lo l.length lcap] w fun e w' => e = .returned (.bool true) ∧ Below w.heap.size w w' := by
  have HC := Lib.hid hc
  have HK := Lib.hid hlc
  have HT := Lib.hid hp
  have HL := Lib.hid (fun W => Light_any g ao cap W)
  have HLL := Lib.hid (fun W h => light06_any l lo lcap W hl h)
  have HA := Lib.hid (fun W h => alive06_any W h)
  have H1 := Lib.hid (fun W h h' => GWords_any g ao cap W hgl h h')
  clear hc hlc hp
  cases h : lightB g with
  | false =>
    rw [h] at HL
    clear h H1 HLL
    go_enter Tryd.func14, Tryd.ntmps14
    go_wp2_with fail
    obtain ⟨W, hW, c0, c1, hsW⟩ : ∃ W, W = w.alloc (Obj.cells #[.int .i64 g.n, .slice ao g.es.length cap] 52) ∧ W.cell? ⟨w.heap.size, 0, none⟩ = some (.int .i64 g.n) ∧ W.cell? ⟨w.heap.size, 1, none⟩ = some (.slice ao g.es.length cap) ∧ w.heap.size < W.heap.size := ⟨_, rfl, by go_simp, by go_simp, by simp⟩
    rw [← hW]
    have HW := Lib.hid (show Below w.heap.size w W by rw [hW]; repeat (first | exact Below.refl _ _ | refine Below.al ?_ _ | refine Below.dr ?_ _ | refine Below.drew ?_ | assumption | (refine Below.st ?_ (by assumption))))
    clear hW
    go_wp2_with (first
      | (go_at_call 47; refine (HL.out _).mono ?_; rintro e w1 ⟨rfl, hb1⟩; (have HB1 := Lib.hid (HW.out.st hb1); clear hb1))
      | (go_at_call 48; refine (HA.out _ (tabIs_go HT.out HB1.out)).mono ?_; rintro e w2 ⟨rfl, hb2⟩))
    go_ret
    exact ⟨rfl, HB1.out.st hb2⟩
  | true =>
    rw [h] at HL
    cases h6 : lightW l with
    | false =>
      rw [h6] at HLL
      clear h h6 H1
      go_enter Tryd.func14, Tryd.ntmps14
      go_wp2_with fail
      obtain ⟨W, hW, c0, c1, hsW⟩ : ∃ W, W = w.alloc (Obj.cells #[.int .i64 g.n, .slice ao g.es.length cap] 52) ∧ W.cell? ⟨w.heap.size, 0, none⟩ = some (.int .i64 g.n) ∧ W.cell? ⟨w.heap.size, 1, none⟩ = some (.slice ao g.es.length cap) ∧ w.heap.size < W.heap.size := ⟨_, rfl, by go_simp, by go_simp, by simp⟩
      rw [← hW]
      have HW := Lib.hid (show Below w.heap.size w W by rw [hW]; repeat (first | exact Below.refl _ _ | refine Below.al ?_ _ | refine Below.dr ?_ _ | refine Below.drew ?_ | assumption | (refine Below.st ?_ (by assumption))))
      clear hW
      go_wp2_with (first
        | (go_at_call 47; refine (HL.out _).mono ?_; rintro e w1 ⟨rfl, hb1⟩; (have HB1 := Lib.hid (HW.out.st hb1); clear hb1))
        | (go_at_call 54; refine (HLL.out _ (HK.out.go HB1.out)).mono ?_; rintro e w2 ⟨rfl, hb2⟩; (have HB2 := Lib.hid (HB1.out.st hb2); clear hb2))
        | (go_at_call 48; refine (HA.out _ (tabIs_go HT.out HB2.out)).mono ?_; rintro e w3 ⟨rfl, hb3⟩))
      go_ret
      exact ⟨rfl, HB2.out.st hb3⟩
    | true =>
      obtain ⟨m1, m2⟩ := lightW_mem h6
      rw [h6] at HLL
      have hm : g.es.length ≤ 300 := by
        unfold lightB at h
        simp at h
        omega
      have P1 := Lib.hid (fun W h => GParse_any l lo lcap W h (fun x hx => by have := m2 x hx; omega) (by omega))
      have HPC := Lib.hid (parse_cases l)
      clear h h6 m2
      by_cases hr : rightG g = 0
      · have HWL := Lib.hid (wordsK_length g g.es.length (Nat.le_refl _))
        have Q1 := Lib.hid (fun a p W h => GParse_any (wordsK g g.es.length) a p W h (fun x hx => by have := words_size hr x hx; omega) (by have := HWL.out; omega))
        rw [parse_words hr] at Q1
        have Q2 := Lib.hid (fun W h h' => GPrint_any g ao cap W hgl h h')
        rw [printG_ok hr] at Q2
        have Q3 := Lib.hid (fun W => GRead_text g W hr (by omega))
        rw [wordsG_ok hr (by omega)] at H1
        generalize wordsK g g.es.length = wl at *
        generalize textK g g.es.length = tx at *
        clear hr
        go_enter Tryd.func14, Tryd.ntmps14
        go_wp2_with fail
        obtain ⟨W, hW, c0, c1, hsW⟩ : ∃ W, W = w.alloc (Obj.cells #[.int .i64 g.n, .slice ao g.es.length cap] 52) ∧ W.cell? ⟨w.heap.size, 0, none⟩ = some (.int .i64 g.n) ∧ W.cell? ⟨w.heap.size, 1, none⟩ = some (.slice ao g.es.length cap) ∧ w.heap.size < W.heap.size := ⟨_, rfl, by go_simp, by go_simp, by simp⟩
        rw [← hW]
        have HW := Lib.hid (show Below w.heap.size w W by rw [hW]; repeat (first | exact Below.refl _ _ | refine Below.al ?_ _ | refine Below.dr ?_ _ | refine Below.drew ?_ | assumption | (refine Below.st ?_ (by assumption))))
        clear hW
        go_wp2_with (first
          | (go_at_call 47; refine (HL.out _).mono ?_; rintro e w1 ⟨rfl, hb1⟩; have c0a := cell_later hb1 c0; have c1a := cell_later hb1 c1; (have HB1 := Lib.hid (HW.out.st hb1); clear hb1))
          | (go_at_call 54; refine (HLL.out _ (HK.out.go HB1.out)).mono ?_; rintro e w2 ⟨rfl, hb2⟩; have c0b := cell_later hb2 c0a; have c1b := cell_later hb2 c1a; (have HB2 := Lib.hid (HB1.out.st hb2); clear hb2))
          | (go_at_call 49; refine (H1.out _ (HC.out.go HB2.out) (tabIs_go HT.out HB2.out)).mono ?_; rintro e w3 ⟨a3, p3, rfl, hc3, hb3⟩; have c0c := cell_later hb3 c0b; have c1c := cell_later hb3 c1b; (have HB3 := Lib.hid (HB2.out.st hb3); have HC3 := Lib.hid hc3; clear hb3 hc3))
          | (go_at_call 55; refine (Q1.out _ _ _ HC3.out).mono ?_; rintro e w4 ⟨a4, p4, rfl, hc4, hb4⟩; have c0d := fun o => cell_later (Below.of_al w4 o) (cell_later hb4 c0c); have c1d := fun o => cell_later (Below.of_al w4 o) (cell_later hb4 c1c); (have HB4 := Lib.hid (HB3.out.st hb4); have HC4 := Lib.hid hc4; clear hb4 hc4)))
        obtain ⟨W5, hW5⟩ : ∃ W5, W5 = w4.alloc (Obj.cells #[.int .i64 g.n, .slice a4 g.es.length p4] 52) := ⟨_, rfl⟩
        have d0 : W5.cell? ⟨w4.heap.size, 0, none⟩ = some (.int .i64 g.n) := by rw [hW5]; go_simp
        have d1 : W5.cell? ⟨w4.heap.size, 1, none⟩ = some (.slice a4 g.es.length p4) := by rw [hW5]; go_simp
        have c0e := c0d (Obj.cells #[.int .i64 g.n, .slice a4 g.es.length p4] 52)
        have c1e := c1d (Obj.cells #[.int .i64 g.n, .slice a4 g.es.length p4] 52)
        rw [← hW5] at c0e c1e
        have HB5 := Lib.hid (show Below w.heap.size w W5 by rw [hW5]; exact HB4.out.al _)
        have HC5 := Lib.hid (show Cel W5 a4 (flat g.es) by rw [hW5]; exact HC4.out.go (Below.of_al _ _))
        rw [← hW5]
        clear hW5 c0d c1d c0c c1c c0b c1b c0a c1a c0 c1 HC4
        refine (Q2.out _ (HC.out.go HB5.out) (tabIs_go HT.out HB5.out)).mono ?_
        rintro e w6 ⟨rfl, hb6⟩
        have d0f := cell_later hb6 d0
        have d1f := cell_later hb6 d1
        have c0f := cell_later hb6 c0e
        have c1f := cell_later hb6 c1e
        have HB6 := Lib.hid (HB5.out.st hb6)
        have HC6 := Lib.hid (HC5.out.go hb6)
        clear hb6 d0 d1 c0e c1e HC5
        go_wp2_with fail
        refine (Q3.out _).mono ?_
        rintro e w7 ⟨a7, p7, rfl, hc7, hb7⟩
        have d0g := fun o => cell_later (Below.of_al w7 o) (cell_later hb7 d0f)
        have d1g := fun o => cell_later (Below.of_al w7 o) (cell_later hb7 d1f)
        have c0g := fun o => cell_later (Below.of_al w7 o) (cell_later hb7 c0f)
        have c1g := fun o => cell_later (Below.of_al w7 o) (cell_later hb7 c1f)
        have HB8 := Lib.hid (fun o => (HB6.out.st hb7).al o)
        have HC8 := Lib.hid (fun o => (HC6.out.go hb7).go (Below.of_al w7 o))
        have HD8 := Lib.hid (fun o => hc7.go (Below.of_al w7 o))
        clear hb7 hc7 d0f d1f c0f c1f HC6
        go_wp2_with (first
          | (go_at_call_of 57 (Value.agg #[.int .i64 g.n, .slice a4 g.es.length p4]); refine (refGSame_self g.n g.es a4 ao p4 cap _ hgl (HC8.out _) (HC.out.go (HB8.out _))).mono ?_; rintro e w9 ⟨rfl, hb9⟩; have c0h := cell_later hb9 (c0g _); have c1h := cell_later hb9 (c1g _); have e0h := cell_later hb9 (a := ⟨w7.heap.size, 0, none⟩) (v := .int .i64 g.n) (by go_simp); have e1h := cell_later hb9 (a := ⟨w7.heap.size, 1, none⟩) (v := .slice a7 g.es.length p7) (by go_simp); (have HB9 := Lib.hid ((HB8.out _).st hb9); have HD9 := Lib.hid ((HD8.out _).go hb9); clear hb9))
          | (go_at_call_of 57 (Value.agg #[.int .i64 g.n, .slice a7 g.es.length p7]); refine (refGSame_self g.n g.es a7 ao p7 cap _ hgl HD9.out (HC.out.go HB9.out)).mono ?_; rintro e w0 ⟨rfl, hb0⟩; (have HB0 := Lib.hid (HB9.out.st hb0); clear hb0)))
        rcases HPC.out with ⟨at', f, hpe, hf⟩ | ⟨⟨xn, xe⟩, hpe, hxr, hxl, hxw⟩
        · have P2 := Lib.hid (show ∀ W, Cel W lo (l.map encS) → Calls Tryd.prog 55 #[.slice lo l.length lcap] W (fun e w' => ∃ a p, e = .returned (.tuple #[.agg #[.int .i64 0, .slice a 0 p], .int .i64 at', .int .i64 f]) ∧ Cel w' a [] ∧ Below W.heap.size W w') by
            have := P1.out
            rw [hpe] at this
            exact this)
          have hf0 : (f != 0) = true := by simpa using hf
          clear hpe hf HPC P1
          refine (P2.out _ (HK.out.go HB0.out)).mono ?_
          rintro e w8 ⟨a8, p8, rfl, hc8, hb8⟩
          have HB8 := Lib.hid (HB0.out.st hb8)
          clear hc8 hb8
          go_wp2_with (go_at_call 48; refine (HA.out _ (tabIs_go HT.out (HB8.out.al _))).mono ?_; rintro e w9 ⟨rfl, hb9⟩)
          go_ret
          exact ⟨by first | rfl | simp, (HB8.out.al _).st hb9⟩
        · simp only at hxl hxw
          have P2 := Lib.hid (show ∀ W, Cel W lo (l.map encS) → Calls Tryd.prog 55 #[.slice lo l.length lcap] W (fun e w' => ∃ a p, e = .returned (.tuple #[.agg #[.int .i64 xn, .slice a xe.length p], .int .i64 0, .int .i64 0]) ∧ Cel w' a (flat xe) ∧ Below W.heap.size W w') by
            have := P1.out
            rw [hpe] at this
            exact this)
          have V1 := Lib.hid (fun a p W h h' => GWords_any ⟨xn, xe⟩ a p W (by show xe.length ≤ _; omega) h h')
          rw [wordsG_ok hxr (by show xe.length ≤ _; omega)] at V1
          have V2 := Lib.hid (show ∀ a p W, Cel W a (flat xe) → Pow10 W → Calls Tryd.prog 49 #[.agg #[.int .i64 xn, .slice a xe.length p]] W (fun e w' => ∃ a p, e = .returned (.tuple #[.slice a l.length p, .int .i64 0]) ∧ Cel w' a (l.map encS) ∧ Below W.heap.size W w') by
            have := V1.out
            simp only [hxw] at this
            exact this)
          have R1 := Lib.hid (fun a p W h => refRightG_any ⟨xn, xe⟩ a p W (by show xe.length ≤ _; omega) h)
          rw [hxr] at R1
          clear hpe hxr hxl hxw HPC P1 V1
          refine (P2.out _ (HK.out.go HB0.out)).mono ?_
          rintro e w10 ⟨a10, p10, rfl, hc10, hb10⟩
          obtain ⟨W11, hW11⟩ : ∃ W11, W11 = w10.alloc (Obj.cells #[.int .i64 xn, .slice a10 xe.length p10] 52) := ⟨_, rfl⟩
          have s0 : W11.cell? ⟨w10.heap.size, 0, none⟩ = some (.int .i64 xn) := by rw [hW11]; go_simp
          have s1 : W11.cell? ⟨w10.heap.size, 1, none⟩ = some (.slice a10 xe.length p10) := by rw [hW11]; go_simp
          have HB11 := Lib.hid (show Below w.heap.size w W11 by rw [hW11]; exact (HB0.out.st hb10).al _)
          have HC11 := Lib.hid (show Cel W11 a10 (flat xe) by rw [hW11]; exact hc10.go (Below.of_al _ _))
          clear hb10 hc10
          go_wp2_with fail
          rw [← hW11]
          clear hW11
          refine (V2.out _ _ _ HC11.out (tabIs_go HT.out HB11.out)).mono ?_
          rintro e w12 ⟨a12, p12, rfl, hc12, hb12⟩
          have s0b := cell_later hb12 s0
          have s1b := cell_later hb12 s1
          have HB12 := Lib.hid (HB11.out.st hb12)
          have HC12 := Lib.hid (HC11.out.go hb12)
          have HD12 := Lib.hid hc12
          clear hb12 hc12 s0 s1
          go_wp2_with fail
          refine (sameWords_any _ _ _ _ l l _ hl hl HD12.out (HK.out.go HB12.out)).mono ?_
          rintro e w13 ⟨rfl, n13, rfl⟩
          rw [decide_eq_true (rfl : l = l)]
          have s0c := cell_later (Below.of_dr w12 n13) s0b
          have s1c := cell_later (Below.of_dr w12 n13) s1b
          have HB13 := Lib.hid (HB12.out.dr n13)
          have HC13 := Lib.hid (HC12.out.go (Below.of_dr w12 n13))
          generalize w12.drewN n13 = w13 at *
          go_wp2_with (first
            | (go_at_call 72; refine (R1.out _ _ _ HC13.out).mono ?_; rintro e w14 ⟨rfl, hb14⟩; (have HB14 := Lib.hid (HB13.out.st hb14); clear hb14))
            | (go_at_call 48; refine (HA.out _ (tabIs_go HT.out HB14.out)).mono ?_; rintro e w15 ⟨rfl, hb15⟩))
          go_ret
          exact ⟨by first | rfl | simp, HB14.out.st hb15⟩
      · rw [wordsG_bad hr] at H1
        clear hr
        go_enter Tryd.func14, Tryd.ntmps14
        go_wp2_with fail
        obtain ⟨W, hW, c0, c1, hsW⟩ : ∃ W, W = w.alloc (Obj.cells #[.int .i64 g.n, .slice ao g.es.length cap] 52) ∧ W.cell? ⟨w.heap.size, 0, none⟩ = some (.int .i64 g.n) ∧ W.cell? ⟨w.heap.size, 1, none⟩ = some (.slice ao g.es.length cap) ∧ w.heap.size < W.heap.size := ⟨_, rfl, by go_simp, by go_simp, by simp⟩
        rw [← hW]
        have HW := Lib.hid (show Below w.heap.size w W by rw [hW]; repeat (first | exact Below.refl _ _ | refine Below.al ?_ _ | refine Below.dr ?_ _ | refine Below.drew ?_ | assumption | (refine Below.st ?_ (by assumption))))
        clear hW
        go_wp2_with (first
          | (go_at_call 47; refine (HL.out _).mono ?_; rintro e w1 ⟨rfl, hb1⟩; have c0a := cell_later hb1 c0; have c1a := cell_later hb1 c1; (have HB1 := Lib.hid (HW.out.st hb1); clear hb1))
          | (go_at_call 54; refine (HLL.out _ (HK.out.go HB1.out)).mono ?_; rintro e w2 ⟨rfl, hb2⟩; have c0b := cell_later hb2 c0a; have c1b := cell_later hb2 c1a; (have HB2 := Lib.hid (HB1.out.st hb2); clear hb2))
          | (go_at_call 49; refine (H1.out _ (HC.out.go HB2.out) (tabIs_go HT.out HB2.out)).mono ?_; rintro e w0 ⟨a3, p3, rfl, hc3, hb3⟩; (have HB0 := Lib.hid (HB2.out.st hb3); clear hb3 hc3)))
        rcases HPC.out with ⟨at', f, hpe, hf⟩ | ⟨⟨xn, xe⟩, hpe, hxr, hxl, hxw⟩
        · have P2 := Lib.hid (show ∀ W, Cel W lo (l.map encS) → Calls Tryd.prog 55 #[.slice lo l.length lcap] W (fun e w' => ∃ a p, e = .returned (.tuple #[.agg #[.int .i64 0, .slice a 0 p], .int .i64 at', .int .i64 f]) ∧ Cel w' a [] ∧ Below W.heap.size W w') by
            have := P1.out
            rw [hpe] at this
            exact this)
          have hf0 : (f != 0) = true := by simpa using hf
          clear hpe hf HPC P1
          refine (P2.out _ (HK.out.go HB0.out)).mono ?_
          rintro e w8 ⟨a8, p8, rfl, hc8, hb8⟩
          have HB8 := Lib.hid (HB0.out.st hb8)
          clear hc8 hb8
          go_wp2_with (go_at_call 48; refine (HA.out _ (tabIs_go HT.out (HB8.out.al _))).mono ?_; rintro e w9 ⟨rfl, hb9⟩)
          go_ret
          exact ⟨by first | rfl | simp, (HB8.out.al _).st hb9⟩
        · simp only at hxl hxw
          have P2 := Lib.hid (show ∀ W, Cel W lo (l.map encS) → Calls Tryd.prog 55 #[.slice lo l.length lcap] W (fun e w' => ∃ a p, e = .returned (.tuple #[.agg #[.int .i64 xn, .slice a xe.length p], .int .i64 0, .int .i64 0]) ∧ Cel w' a (flat xe) ∧ Below W.heap.size W w') by
            have := P1.out
            rw [hpe] at this
            exact this)
          have V1 := Lib.hid (fun a p W h h' => GWords_any ⟨xn, xe⟩ a p W (by show xe.length ≤ _; omega) h h')
          rw [wordsG_ok hxr (by show xe.length ≤ _; omega)] at V1
          have V2 := Lib.hid (show ∀ a p W, Cel W a (flat xe) → Pow10 W → Calls Tryd.prog 49 #[.agg #[.int .i64 xn, .slice a xe.length p]] W (fun e w' => ∃ a p, e = .returned (.tuple #[.slice a l.length p, .int .i64 0]) ∧ Cel w' a (l.map encS) ∧ Below W.heap.size W w') by
            have := V1.out
            simp only [hxw] at this
            exact this)
          have R1 := Lib.hid (fun a p W h => refRightG_any ⟨xn, xe⟩ a p W (by show xe.length ≤ _; omega) h)
          rw [hxr] at R1
          clear hpe hxr hxl hxw HPC P1 V1
          refine (P2.out _ (HK.out.go HB0.out)).mono ?_
          rintro e w10 ⟨a10, p10, rfl, hc10, hb10⟩
          obtain ⟨W11, hW11⟩ : ∃ W11, W11 = w10.alloc (Obj.cells #[.int .i64 xn, .slice a10 xe.length p10] 52) := ⟨_, rfl⟩
          have s0 : W11.cell? ⟨w10.heap.size, 0, none⟩ = some (.int .i64 xn) := by rw [hW11]; go_simp
          have s1 : W11.cell? ⟨w10.heap.size, 1, none⟩ = some (.slice a10 xe.length p10) := by rw [hW11]; go_simp
          have HB11 := Lib.hid (show Below w.heap.size w W11 by rw [hW11]; exact (HB0.out.st hb10).al _)
          have HC11 := Lib.hid (show Cel W11 a10 (flat xe) by rw [hW11]; exact hc10.go (Below.of_al _ _))
          clear hb10 hc10
          go_wp2_with fail
          rw [← hW11]
          clear hW11
          refine (V2.out _ _ _ HC11.out (tabIs_go HT.out HB11.out)).mono ?_
          rintro e w12 ⟨a12, p12, rfl, hc12, hb12⟩
          have s0b := cell_later hb12 s0
          have s1b := cell_later hb12 s1
          have HB12 := Lib.hid (HB11.out.st hb12)
          have HC12 := Lib.hid (HC11.out.go hb12)
          have HD12 := Lib.hid hc12
          clear hb12 hc12 s0 s1
          go_wp2_with fail
          refine (sameWords_any _ _ _ _ l l _ hl hl HD12.out (HK.out.go HB12.out)).mono ?_
          rintro e w13 ⟨rfl, n13, rfl⟩
          rw [decide_eq_true (rfl : l = l)]
          have s0c := cell_later (Below.of_dr w12 n13) s0b
          have s1c := cell_later (Below.of_dr w12 n13) s1b
          have HB13 := Lib.hid (HB12.out.dr n13)
          have HC13 := Lib.hid (HC12.out.go (Below.of_dr w12 n13))
          generalize w12.drewN n13 = w13 at *
          go_wp2_with (first
            | (go_at_call 72; refine (R1.out _ _ _ HC13.out).mono ?_; rintro e w14 ⟨rfl, hb14⟩; (have HB14 := Lib.hid (HB13.out.st hb14); clear hb14))
            | (go_at_call 48; refine (HA.out _ (tabIs_go HT.out HB14.out)).mono ?_; rintro e w15 ⟨rfl, hb15⟩))
          go_ret
          exact ⟨by first | rfl | simp, HB14.out.st hb15⟩

end Go.Proofs.YtfjplphdkfiljaaDoor
