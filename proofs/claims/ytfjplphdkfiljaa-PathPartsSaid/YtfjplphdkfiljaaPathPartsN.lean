/-
  The walk of the statement PathParts at a row without edges.
-/
import Derived.Test.YtfjplphdkfiljaaProg
import Derived.Test.YtfjplphdkfiljaaPathParts
namespace Go.Proofs.Ytfjplphdkfiljaa
open Go.Proofs Go.RowKit Go.Shelf

set_option maxRecDepth 100000 in
set_option maxHeartbeats 4000000 in
theorem PathParts_nil (g : GD) (ao al : Option Addr) (cap cb : Nat) (s t at' : Int) (l : List Int) (w : World) (hl : g.es.length ≤ 9223372036854775807) (h200 : l.length ≤ 200) (hcb : l.length ≤ cb) (hemp : l = []) (hnil : al = none → cb = 0)
    (hlight : ((decide (g.n ≤ 100) || decide (4096 < g.n)) && decide ((g.es.length : Int) ≤ 300)) = true) (his : isB g s t l = true)
    (hc : Cel w ao (flat g.es)) (hd : Cel w al (l.map encI)) :
    Calls Try.prog 8 #[.agg #[.int .i64 g.n, .slice ao g.es.length cap], .int .i64 s, .int .i64 t, .slice al l.length cb, .int .i64 at'] w fun e w' => e = .returned (.bool true) ∧ Below w.heap.size w w' := by
  have HN := Lib.hid (fun (W : World) (A : Option Addr) (j : Nat) => (show Cel W A ((l.drop j).map encI) by subst hemp; rw [List.drop_nil]; exact Cel.nil _ _))
  have hl0 : l.length = 0 := by rw [hemp]; rfl
  have HC := Lib.hid hc
  have HD := Lib.hid hd
  clear hc hd
  have HL := Lib.hid (fun W => Light_any g ao cap W)
  rw [hlight] at HL
  clear hlight
  obtain ⟨O, hO⟩ : ∃ O, nodesG g s l = some O := by
    cases h : nodesG g s l with
    | none => unfold isB at his; rw [h] at his; cases his
    | some O => exact ⟨O, rfl⟩
  have hbd := modI_bd at' (l.length + 1) (by omega)
  obtain ⟨k, hk⟩ : ∃ k : Nat, modI at' (l.length + 1) = (k : Int) := ⟨(modI at' (l.length + 1)).toNat, by omega⟩
  rw [hk] at hbd
  have hk2 : k ≤ l.length := by omega
  have hE : edgesB g l = true := by
    cases h : edgesB g l with
    | true => rfl
    | false => unfold nodesG at hO; rw [h] at hO; cases hO
  have hcut := is_cut hO his k hk2
  have hlen := nodesG_length hO
  have hw1 := weight_sum (edgesB_take hE k)
  have hw2 := weight_sum (edgesB_drop hE k)
  have hw3 := weight_sum hE
  have hws := wsum_cut g.es l k
  have hb1 := wsum_bd (edgesB_take hE k)
  have hb2 := wsum_bd (edgesB_drop hE k)
  have hb3 := wsum_bd hE
  have hsh : sharedG g l (l.take k) ≤ wsum g.es (l.take k) := by
    unfold sharedG
    rw [hE, edgesB_take hE k]
    exact shF_le _ _ _ rfl (edgesB_take hE k)
  have hsf : simpleB g s l = true → (l.length : Int) < g.n := simple_few
  obtain ⟨x, hx⟩ : ∃ x, O[k]? = some x := ⟨_, List.getElem?_eq_getElem (by omega)⟩
  rw [hx, Option.getD_some] at hcut
  have Y0 := Lib.hid (fun W h1 h2 => Is_any g ao al cap cb s t l W hl (by omega) h1 h2)
  have Y1 := Lib.hid (fun W => Mod_any at' (l.length + 1) W (by omega))
  have Y2 := Lib.hid (fun W h1 h2 => Nodes_any g ao al cap cb s l W hl (by omega) h1 h2)
  have Y3 := Lib.hid (fun W h1 => refRightG_any g ao cap W hl h1)
  have Y4 := Lib.hid (fun W h1 (h2 : Cel W al (l.map encI)) => (by
    have := Weight_any g ao al cap cb (l.take k) W hl (by rw [List.length_take]; omega) h1 (h2.take k)
    rw [List.length_take, Nat.min_eq_left hk2] at this
    exact this : Calls Try.prog 24 #[.agg #[.int .i64 g.n, .slice ao g.es.length cap], .slice al k cb] W fun e w' => e = .returned (.tuple #[.int .u64 ((weightG g (l.take k)).getD 0), .bool (weightG g (l.take k)).isSome]) ∧ Below W.heap.size W w'))
  have Y5 := Lib.hid (fun A cq W h1 (h2 : Cel W A ((l.drop k).map encI)) => (by
    have := Weight_any g ao A cap cq (l.drop k) W hl (by rw [List.length_drop]; omega) h1 h2
    rw [List.length_drop] at this
    exact this : Calls Try.prog 24 #[.agg #[.int .i64 g.n, .slice ao g.es.length cap], .slice A (l.length - k) cq] W fun e w' => e = .returned (.tuple #[.int .u64 ((weightG g (l.drop k)).getD 0), .bool (weightG g (l.drop k)).isSome]) ∧ Below W.heap.size W w'))
  have Y6 := Lib.hid (fun W h1 h2 => Weight_any g ao al cap cb l W hl (by omega) h1 h2)
  have Y7 := Lib.hid (fun W h1 h2 => Simple_any g ao al cap cb s l W hl (by omega) h1 h2)
  have Y8 := Lib.hid (fun W h1 (h2 : Cel W al (l.map encI)) => (by
    have := Is_any g ao al cap cb s x (l.take k) W hl (by rw [List.length_take]; omega) h1 (h2.take k)
    rw [List.length_take, Nat.min_eq_left hk2, hcut.1] at this
    exact this : Calls Try.prog 27 #[.agg #[.int .i64 g.n, .slice ao g.es.length cap], .int .i64 s, .int .i64 x, .slice al k cb] W fun e w' => e = .returned (.bool true) ∧ Below W.heap.size W w'))
  have Y9 := Lib.hid (fun A cq W h1 (h2 : Cel W A ((l.drop k).map encI)) => (by
    have := Is_any g ao A cap cq x t (l.drop k) W hl (by rw [List.length_drop]; omega) h1 h2
    rw [List.length_drop, hcut.2] at this
    exact this : Calls Try.prog 27 #[.agg #[.int .i64 g.n, .slice ao g.es.length cap], .int .i64 x, .int .i64 t, .slice A (l.length - k) cq] W fun e w' => e = .returned (.bool true) ∧ Below W.heap.size W w'))
  have Y10 := Lib.hid (fun W h1 (h2 : Cel W al (l.map encI)) => (by
    have := Shared_any g ao al al cap cb cb l (l.take k) W hl (by omega) (by rw [List.length_take]; omega) h1 h2 (h2.take k)
    rw [List.length_take, Nat.min_eq_left hk2] at this
    exact this : Calls Try.prog 40 #[.agg #[.int .i64 g.n, .slice ao g.es.length cap], .slice al l.length cb, .slice al k cb] W fun e w' => e = .returned (.int .u64 (sharedG g l (l.take k))) ∧ Below W.heap.size W w'))
  rw [his] at Y0
  rw [hk] at Y1
  rw [hO] at Y2
  rw [edgesB_right hE] at Y3
  rw [hw1] at Y4
  rw [hw2] at Y5
  rw [hw3] at Y6
  clear hw1 hw2 hw3 his hO hcut hk
  generalize wsum g.es (l.take k) = wa at *
  generalize wsum g.es (l.drop k) = wb at *
  generalize wsum g.es l = wc at *
  generalize sharedG g l (l.take k) = sh at *
  generalize simpleB g s l = sb at *
  have HX := Lib.hid hx
  have g1 : (decide ((200 : Int) < (l.length : Int))) = false := by simp; omega
  have g2 : ¬ (l.length : Int) > 200 := by omega
  have HSF := Lib.hid hsf
  clear hx hsf
  simp only [Option.getD_some, Option.isSome_some] at Y4 Y5 Y6
  have hkc : (k : Int) ≤ (cb : Int) := by omega
  have hkc2 : (k : Int) ≤ (l.length : Int) := by omega
  have hk0 : (0 : Int) ≤ (k : Int) := by omega
  obtain rfl : k = 0 := by omega
  subst hemp
  simp only [List.length_nil, Nat.sub_self] at *
  clear hl0 h200 hcb hkc hkc2 hk0 hk2 hbd g1 g2
  have hz : (O.length : Int) = 1 := by omega
  cases al with
  | none =>
    obtain rfl := hnil rfl
    clear hnil
    go_enter Try.func8, Try.ntmps8
    go_wp2_with fail
    obtain ⟨W, hW, c0, c1, hsW⟩ : ∃ W, W = w.alloc (Obj.cells #[.int .i64 g.n, .slice ao g.es.length cap] 38) ∧ W.cell? ⟨w.heap.size, 0, none⟩ = some (.int .i64 g.n) ∧ W.cell? ⟨w.heap.size, 1, none⟩ = some (.slice ao g.es.length cap) ∧ w.heap.size < W.heap.size := ⟨_, rfl, by go_simp, by go_simp, by simp⟩
    rw [← hW]
    have HW := Lib.hid (show Below w.heap.size w W by rw [hW]; repeat (first | exact Below.refl _ _ | refine Below.al ?_ _ | refine Below.dr ?_ _ | refine Below.drew ?_ | assumption | (refine Below.st ?_ (by assumption))))
    clear hW
    refine (HL.out _).mono ?_
    rintro e w1 ⟨rfl, hb1⟩
    have m0 := cell_later hb1 c0
    have m1 := cell_later hb1 c1
    have HW1 := Lib.hid (HW.out.st hb1)
    clear c0 c1 hb1 hsW HW
    go_wp2_with fail
    refine (Y0.out _ (HC.out.go HW1.out) (HD.out.go HW1.out)).mono ?_
    rintro e w2 ⟨rfl, hb2⟩
    have c0 := cell_later hb2 m0
    have c1 := cell_later hb2 m1
    have HW2 := Lib.hid (HW1.out.st hb2)
    clear m0 m1 hb2 HW1
    go_wp2_with fail
    refine (Y1.out _).mono ?_
    rintro e w2 ⟨rfl, rfl⟩
    go_wp2_with fail
    refine (Y2.out _ (HC.out.go HW2.out) (HD.out.go HW2.out)).mono ?_
    rintro e w3 ⟨a3, p3, rfl, hc3, hb3, -⟩
    have m0 := cell_later hb3 c0
    have m1 := cell_later hb3 c1
    have HW3 := Lib.hid (HW2.out.st hb3)
    have CO3 := Lib.hid (show Cel w3 a3 (O.map encI) from hc3)
    clear c0 c1 hb3 HW2 hc3
    simp only [Option.getD_some, Option.isSome_some]
    have hne : ((O.length : Int) != 1) = false := by simp; omega
    go_wp2_with fail
    refine (Y3.out _ (HC.out.go HW3.out)).mono ?_
    rintro e w4 ⟨rfl, hb4⟩
    have c0 := cell_later hb4 m0
    have c1 := cell_later hb4 m1
    have HW4 := Lib.hid (HW3.out.st hb4)
    have CO4 := Lib.hid (CO3.out.go hb4)
    clear m0 m1 hb4 HW3 CO3
    have e0 := fun p => cell_ext p c0
    have e1 := fun p => cell_ext p c1
    have XC := Lib.hid (fun p => (HC.out.go HW4.out).go (below_ext w4 p))
    have XD := Lib.hid (fun p => (HD.out.go HW4.out).go (below_ext w4 p))
    go_wp2_with fail
    refine wp_region_ext (by kernel_rfl) (by kernel_rfl) ?_
    repeat (go_big_quiet_step ((go_at_call 24; exact Calls.ext_of (Y4.out _ (XC.out _) (XD.out _)))))
    refine wpQuiet_nil ?_
    rintro _ ⟨p5, rfl⟩
    have HB5 := Lib.hid (below_ext w4 p5)
    generalize ext w4 p5 = w5 at HB5 ⊢
    have m0 := cell_later HB5.out c0
    have m1 := cell_later HB5.out c1
    have HW5 := Lib.hid (HW4.out.st HB5.out)
    have CO5 := Lib.hid (CO4.out.go HB5.out)
    clear c0 c1 e0 e1 XC XD HB5 HW4 CO4
    have e0 := fun p => cell_ext p m0
    have e1 := fun p => cell_ext p m1
    have XC := Lib.hid (fun p => (HC.out.go HW5.out).go (below_ext w5 p))
    have XD := Lib.hid (fun p => (HD.out.go HW5.out).go (below_ext w5 p))
    have XE := Lib.hid (fun p A => HN.out (ext w5 p) A 0)
    go_wp2_with fail
    refine wp_region_ext (by kernel_rfl) (by kernel_rfl) ?_
    repeat (go_big_quiet_step ((go_at_call 24; exact Calls.ext_of (Y5.out _ _ _ (XC.out _) (XE.out _ _)))))
    refine wpQuiet_nil ?_
    rintro _ ⟨p6, rfl⟩
    have HB6 := Lib.hid (below_ext w5 p6)
    generalize ext w5 p6 = w6 at HB6 ⊢
    have c0 := cell_later HB6.out m0
    have c1 := cell_later HB6.out m1
    have HW6 := Lib.hid (HW5.out.st HB6.out)
    have CO6 := Lib.hid (CO5.out.go HB6.out)
    clear m0 m1 e0 e1 XC XD XE HB6 HW5 CO5
    go_wp2_with fail
    refine (Y6.out _ (HC.out.go HW6.out) (HD.out.go HW6.out)).mono ?_
    rintro e w7 ⟨rfl, hb7⟩
    have m0 := cell_later hb7 c0
    have m1 := cell_later hb7 c1
    have HW7 := Lib.hid (HW6.out.st hb7)
    have CO7 := Lib.hid (CO6.out.go hb7)
    clear c0 c1 hb7 HW6 CO6
    go_wp2_with fail
    refine (Y7.out _ (HC.out.go HW7.out) (HD.out.go HW7.out)).mono ?_
    rintro e w8 ⟨rfl, hb8⟩
    have c0 := cell_later hb8 m0
    have c1 := cell_later hb8 m1
    have HW8 := Lib.hid (HW7.out.st hb8)
    have CO8 := Lib.hid (CO7.out.go hb8)
    clear m0 m1 hb8 HW7 CO7
    have e0 := fun p => cell_ext p c0
    have e1 := fun p => cell_ext p c1
    have XC := Lib.hid (fun p => (HC.out.go HW8.out).go (below_ext w8 p))
    have XD := Lib.hid (fun p => (HD.out.go HW8.out).go (below_ext w8 p))
    have XE := Lib.hid (fun p A => HN.out (ext w8 p) A 0)
    obtain ⟨b3, o3, hao, hcx⟩ := CO8.out 0 (.int .i64 x) (by simp [HX.out])
    subst hao
    simp only [Nat.add_zero] at hcx
    have e2 := fun p => cell_ext p hcx
    have w5' : IntKind.u64.wrap (wa + wb) = wa + wb := IntWalk.u64_in _ (by omega)
    have s1 : (wa + wb == wc) = true := by simp; omega
    have s2 : decide (sh ≤ wa) = true := by simpa using hsh
    have s3 : (0 : Int) < 1 := by omega
    have s4 : (0 : Int) < ((0 + 1 : Nat) : Int) := by omega
    have s5 : (0 : Int) < (O.length : Int) := by omega
    clear hb1 hb2 hb3 hws hsh hcx
    cases sb with
    | false =>
      go_wp2_with fail
      refine wp_region_ext (by kernel_rfl) (by kernel_rfl) ?_
      repeat (go_big_quiet_step ((first
        | (go_at_call_of 27 (Value.int IntKind.i64 s); exact Calls.ext_of (Y8.out _ (XC.out _) (XD.out _)))
        | (go_at_call 27; exact Calls.ext_of (Y9.out _ _ _ (XC.out _) (XE.out _ _)))
        | (go_at_call 40; exact Calls.ext_of (Y10.out _ (XC.out _) (XD.out _)))
        | (go_at_call 19; exact Calls.ext_of (alive08_any _)))))
      refine wpQuiet_nil ?_
      rintro _ ⟨p9, rfl⟩
      have HB9 := Lib.hid (below_ext w8 p9)
      generalize ext w8 p9 = w9 at HB9 ⊢
      go_wp2
      go_ret
      exact ⟨rfl, HW8.out.st HB9.out⟩
    | true =>
      have s6 := HSF.out (by trivial)
      have s7 : decide (g.n ≤ 0) = false := by simp; omega
      have s8 : ¬ (0 ≥ g.n) := by omega
      go_wp2_with fail
      refine wp_region_ext (by kernel_rfl) (by kernel_rfl) ?_
      repeat (go_big_quiet_step ((first
        | (go_at_call_of 27 (Value.int IntKind.i64 s); exact Calls.ext_of (Y8.out _ (XC.out _) (XD.out _)))
        | (go_at_call 27; exact Calls.ext_of (Y9.out _ _ _ (XC.out _) (XE.out _ _)))
        | (go_at_call 40; exact Calls.ext_of (Y10.out _ (XC.out _) (XD.out _)))
        | (go_at_call 19; exact Calls.ext_of (alive08_any _)))))
      refine wpQuiet_nil ?_
      rintro _ ⟨p9, rfl⟩
      have HB9 := Lib.hid (below_ext w8 p9)
      generalize ext w8 p9 = w9 at HB9 ⊢
      go_wp2
      go_ret
      exact ⟨rfl, HW8.out.st HB9.out⟩
  | some ad =>
    obtain ⟨b, o, sp⟩ := ad
    go_enter Try.func8, Try.ntmps8
    go_wp2_with fail
    obtain ⟨W, hW, c0, c1, hsW⟩ : ∃ W, W = w.alloc (Obj.cells #[.int .i64 g.n, .slice ao g.es.length cap] 38) ∧ W.cell? ⟨w.heap.size, 0, none⟩ = some (.int .i64 g.n) ∧ W.cell? ⟨w.heap.size, 1, none⟩ = some (.slice ao g.es.length cap) ∧ w.heap.size < W.heap.size := ⟨_, rfl, by go_simp, by go_simp, by simp⟩
    rw [← hW]
    have HW := Lib.hid (show Below w.heap.size w W by rw [hW]; repeat (first | exact Below.refl _ _ | refine Below.al ?_ _ | refine Below.dr ?_ _ | refine Below.drew ?_ | assumption | (refine Below.st ?_ (by assumption))))
    clear hW
    refine (HL.out _).mono ?_
    rintro e w1 ⟨rfl, hb1⟩
    have m0 := cell_later hb1 c0
    have m1 := cell_later hb1 c1
    have HW1 := Lib.hid (HW.out.st hb1)
    clear c0 c1 hb1 hsW HW
    go_wp2_with fail
    refine (Y0.out _ (HC.out.go HW1.out) (HD.out.go HW1.out)).mono ?_
    rintro e w2 ⟨rfl, hb2⟩
    have c0 := cell_later hb2 m0
    have c1 := cell_later hb2 m1
    have HW2 := Lib.hid (HW1.out.st hb2)
    clear m0 m1 hb2 HW1
    go_wp2_with fail
    refine (Y1.out _).mono ?_
    rintro e w2 ⟨rfl, rfl⟩
    go_wp2_with fail
    refine (Y2.out _ (HC.out.go HW2.out) (HD.out.go HW2.out)).mono ?_
    rintro e w3 ⟨a3, p3, rfl, hc3, hb3, -⟩
    have m0 := cell_later hb3 c0
    have m1 := cell_later hb3 c1
    have HW3 := Lib.hid (HW2.out.st hb3)
    have CO3 := Lib.hid (show Cel w3 a3 (O.map encI) from hc3)
    clear c0 c1 hb3 HW2 hc3
    simp only [Option.getD_some, Option.isSome_some]
    have hne : ((O.length : Int) != 1) = false := by simp; omega
    go_wp2_with fail
    refine (Y3.out _ (HC.out.go HW3.out)).mono ?_
    rintro e w4 ⟨rfl, hb4⟩
    have c0 := cell_later hb4 m0
    have c1 := cell_later hb4 m1
    have HW4 := Lib.hid (HW3.out.st hb4)
    have CO4 := Lib.hid (CO3.out.go hb4)
    clear m0 m1 hb4 HW3 CO3
    have e0 := fun p => cell_ext p c0
    have e1 := fun p => cell_ext p c1
    have XC := Lib.hid (fun p => (HC.out.go HW4.out).go (below_ext w4 p))
    have XD := Lib.hid (fun p => (HD.out.go HW4.out).go (below_ext w4 p))
    go_wp2_with fail
    refine wp_region_ext (by kernel_rfl) (by kernel_rfl) ?_
    repeat (go_big_quiet_step ((go_at_call 24; exact Calls.ext_of (Y4.out _ (XC.out _) (XD.out _)))))
    refine wpQuiet_nil ?_
    rintro _ ⟨p5, rfl⟩
    have HB5 := Lib.hid (below_ext w4 p5)
    generalize ext w4 p5 = w5 at HB5 ⊢
    have m0 := cell_later HB5.out c0
    have m1 := cell_later HB5.out c1
    have HW5 := Lib.hid (HW4.out.st HB5.out)
    have CO5 := Lib.hid (CO4.out.go HB5.out)
    clear c0 c1 e0 e1 XC XD HB5 HW4 CO4
    have e0 := fun p => cell_ext p m0
    have e1 := fun p => cell_ext p m1
    have XC := Lib.hid (fun p => (HC.out.go HW5.out).go (below_ext w5 p))
    have XD := Lib.hid (fun p => (HD.out.go HW5.out).go (below_ext w5 p))
    have XE := Lib.hid (fun p A => HN.out (ext w5 p) A 0)
    go_wp2_with fail
    refine wp_region_ext (by kernel_rfl) (by kernel_rfl) ?_
    repeat (go_big_quiet_step ((go_at_call 24; exact Calls.ext_of (Y5.out _ _ _ (XC.out _) (XE.out _ _)))))
    refine wpQuiet_nil ?_
    rintro _ ⟨p6, rfl⟩
    have HB6 := Lib.hid (below_ext w5 p6)
    generalize ext w5 p6 = w6 at HB6 ⊢
    have c0 := cell_later HB6.out m0
    have c1 := cell_later HB6.out m1
    have HW6 := Lib.hid (HW5.out.st HB6.out)
    have CO6 := Lib.hid (CO5.out.go HB6.out)
    clear m0 m1 e0 e1 XC XD XE HB6 HW5 CO5
    go_wp2_with fail
    refine (Y6.out _ (HC.out.go HW6.out) (HD.out.go HW6.out)).mono ?_
    rintro e w7 ⟨rfl, hb7⟩
    have m0 := cell_later hb7 c0
    have m1 := cell_later hb7 c1
    have HW7 := Lib.hid (HW6.out.st hb7)
    have CO7 := Lib.hid (CO6.out.go hb7)
    clear c0 c1 hb7 HW6 CO6
    go_wp2_with fail
    refine (Y7.out _ (HC.out.go HW7.out) (HD.out.go HW7.out)).mono ?_
    rintro e w8 ⟨rfl, hb8⟩
    have c0 := cell_later hb8 m0
    have c1 := cell_later hb8 m1
    have HW8 := Lib.hid (HW7.out.st hb8)
    have CO8 := Lib.hid (CO7.out.go hb8)
    clear m0 m1 hb8 HW7 CO7
    have e0 := fun p => cell_ext p c0
    have e1 := fun p => cell_ext p c1
    have XC := Lib.hid (fun p => (HC.out.go HW8.out).go (below_ext w8 p))
    have XD := Lib.hid (fun p => (HD.out.go HW8.out).go (below_ext w8 p))
    have XE := Lib.hid (fun p A => HN.out (ext w8 p) A 0)
    obtain ⟨b3, o3, hao, hcx⟩ := CO8.out 0 (.int .i64 x) (by simp [HX.out])
    subst hao
    simp only [Nat.add_zero] at hcx
    have e2 := fun p => cell_ext p hcx
    have w5' : IntKind.u64.wrap (wa + wb) = wa + wb := IntWalk.u64_in _ (by omega)
    have s1 : (wa + wb == wc) = true := by simp; omega
    have s2 : decide (sh ≤ wa) = true := by simpa using hsh
    have s3 : (0 : Int) < 1 := by omega
    have s4 : (0 : Int) < ((0 + 1 : Nat) : Int) := by omega
    have s5 : (0 : Int) < (O.length : Int) := by omega
    clear hb1 hb2 hb3 hws hsh hcx
    cases sb with
    | false =>
      go_wp2_with fail
      refine wp_region_ext (by kernel_rfl) (by kernel_rfl) ?_
      repeat (go_big_quiet_step ((first
        | (go_at_call_of 27 (Value.int IntKind.i64 s); exact Calls.ext_of (Y8.out _ (XC.out _) (XD.out _)))
        | (go_at_call 27; exact Calls.ext_of (Y9.out _ _ _ (XC.out _) (XE.out _ _)))
        | (go_at_call 40; exact Calls.ext_of (Y10.out _ (XC.out _) (XD.out _)))
        | (go_at_call 19; exact Calls.ext_of (alive08_any _)))))
      refine wpQuiet_nil ?_
      rintro _ ⟨p9, rfl⟩
      have HB9 := Lib.hid (below_ext w8 p9)
      generalize ext w8 p9 = w9 at HB9 ⊢
      go_wp2
      go_ret
      exact ⟨rfl, HW8.out.st HB9.out⟩
    | true =>
      have s6 := HSF.out (by trivial)
      have s7 : decide (g.n ≤ 0) = false := by simp; omega
      have s8 : ¬ (0 ≥ g.n) := by omega
      go_wp2_with fail
      refine wp_region_ext (by kernel_rfl) (by kernel_rfl) ?_
      repeat (go_big_quiet_step ((first
        | (go_at_call_of 27 (Value.int IntKind.i64 s); exact Calls.ext_of (Y8.out _ (XC.out _) (XD.out _)))
        | (go_at_call 27; exact Calls.ext_of (Y9.out _ _ _ (XC.out _) (XE.out _ _)))
        | (go_at_call 40; exact Calls.ext_of (Y10.out _ (XC.out _) (XD.out _)))
        | (go_at_call 19; exact Calls.ext_of (alive08_any _)))))
      refine wpQuiet_nil ?_
      rintro _ ⟨p9, rfl⟩
      have HB9 := Lib.hid (below_ext w8 p9)
      generalize ext w8 p9 = w9 at HB9 ⊢
      go_wp2
      go_ret
      exact ⟨rfl, HW8.out.st HB9.out⟩

end Go.Proofs.Ytfjplphdkfiljaa
