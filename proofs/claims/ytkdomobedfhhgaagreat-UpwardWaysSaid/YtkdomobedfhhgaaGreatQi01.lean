/-
  The library's contracts that the proof uses, laid at this program by the kit's own command; no condition.
  Walk of package upward: Way.
-/
import Derived.Shelf.Small.Bits
import Derived.Shelf.Small.Wraps
import Derived.Shelf.Strconv.Itoa0
import Derived.Shelf.Bits.Mul64
import Derived.Shelf.Slices.Reverse
import Derived.Ground.Names2Prog
import Derived.Shelf.Slices.Clone
import Derived.Shelf.Slices.SearchI
import Derived.Shelf.Slices.Cells
import Derived.Ground.SlgnProg
import Derived.Shelf.SlicesE.Clone
import Derived.Ground.SlsfProg
import Derived.Shelf.SlSortCmp.Insertion
import Derived.Test.YtkdomobedfhhgaaGreatProg
import Derived.Test.YtkdomobedfhhgaaGreatQd02
import Derived.Test.YtkdomobedfhhgaaGreatQe01
import Derived.Sort.Row
set_option linter.unusedVariables false
set_option linter.unusedSimpArgs false
set_option linter.unnecessarySimpa false
section
namespace Go.Proofs
open Go.Shelf
def Tryz.lays112_ren : Go.Shelf.Ren := ⟨fun | 112 => 91 | n => n, fun | 28 => 25 | 3 => 3 | 4 => 4 | 0 => 0 | n => n, fun | n => n⟩
theorem Tryz.lays112 : Go.Proofs.Lays.n112 Tryz.prog Tryz.lays112_ren := {
  mixed := by kernel_rfl
  f112 := Tryz.func91.trans (congrArg some (by kernel_rfl))
  t0 := Tryz.underlying0
  a0 := Tryz.isAgg0
  z0 := Tryz.sizeOf0
  v0 := Tryz.zeroValue0
  t3 := Tryz.underlying3
  a3 := Tryz.isAgg3
  z3 := Tryz.sizeOf3
  v3 := Tryz.zeroValue3
  t4 := Tryz.underlying4
  a4 := Tryz.isAgg4
  z4 := Tryz.sizeOf4
  v4 := Tryz.zeroValue4
  t28 := Tryz.underlying25
  a28 := Tryz.isAgg25
  z28 := Tryz.sizeOf25
  v28 := Tryz.zeroValue25 }
open Go.RowKit Go.Lib Go.Sort in
theorem Tryz.slices_Reverse_int (blk off cap : Nat) (zs : List Int) (w : World) (hH : Holds (Value.int .i64) w blk off zs.toArray) (hsz : zs.length ≤ 9223372036854775807) :
    Calls Tryz.prog 91 #[.slice (some ⟨blk, off, none⟩) zs.length cap] w fun e w' => e = .returned (.tuple #[]) ∧ ∃ n, w' = putRow (Value.int .i64) (Sort.ahead w n) blk off zs.reverse.toArray := Any.slices_Reverse_int Tryz.lays112 blk off cap zs w hH hsz
open Go.RowKit Go.Lib Go.Sort in
theorem Tryz.slices_Reverse_int_empty (a : Option Addr) (cap : Nat) (w : World) :
    Calls Tryz.prog 91 #[.slice a 0 cap] w fun e w' => e = .returned (.tuple #[]) ∧ w' = w := Any.slices_Reverse_int_empty Tryz.lays112 a cap w

end Go.Proofs
end

section
namespace Go.Proofs.YtkdomobedfhhgaaGreat
open Go Go.Proofs Go.RowKit Go.Shelf Go.Proofs.YtkdomobedfhhgaaGreat.Hp Go.Proofs.YtkdomobedfhhgaaGreat.Ch

theorem rev_any (base : Nat) (v : Value) (zs : List Int) (W : World) (h : W.ownsRow base 3 1 v zs.length (zs.map encI)) (hl : zs.length ≤ 1000000) :
    Calls Tryz.prog 91 #[v] W fun e w' => e = .returned (.tuple #[]) ∧ (∃ (ao : Option Addr) (cap : Nat), v = .slice ao zs.length cap ∧ Cel w' ao (zs.reverse.map encI)) ∧ OffX (fun k => v.ownBlock = some k) W w' := by
  have h0 := h
  obtain ⟨hlen, h2⟩ := h
  rcases h2 with ⟨rfl, hz⟩ | ⟨g, cap, cur, rfl, hb, hg, -⟩
  · have hzs : zs = [] := by cases zs with | nil => rfl | cons a r => simp at hz
    subst hzs
    refine (Tryz.slices_Reverse_int_empty none 0 W).mono ?_
    rintro e w' ⟨rfl, rfl⟩
    exact ⟨rfl, ⟨none, 0, rfl, Cel.nil _ _⟩, .refl _ _⟩
  · have hH : Go.Sort.Holds (Value.int .i64) W g 0 zs.toArray := by
      intro j hj
      have hj2 : j < zs.length := by simpa using hj
      refine ⟨?_, by rw [Nat.zero_add]; exact h0.frozenAt j⟩
      rw [Nat.zero_add]
      refine (h0.cellAt j (by omega)).trans ?_
      rw [List.getElem?_map, List.getElem?_eq_getElem hj2, getElem!_pos _ j hj]
      simp
    refine (Tryz.slices_Reverse_int g 0 cap zs W hH (by omega)).mono ?_
    rintro e w' ⟨rfl, n, rfl⟩
    refine ⟨rfl, ⟨_, cap, rfl, ?_⟩, ⟨rfl, rfl, rfl, by rw [Go.Sort.size_putRow]; exact Nat.le_refl _, fun k hk hn => ?_⟩⟩
    · intro i u hu
      have hi : i < zs.reverse.toArray.size := by
        have := (List.getElem?_eq_some_iff.1 hu).1
        simpa using this
      refine ⟨g, 0, rfl, ?_⟩
      rw [Go.Sort.cell?_putRow (Value.int .i64) (Go.Sort.ahead W n) g 0 zs.toArray zs.reverse.toArray hH (by simp) i hi]
      rw [← hu, List.getElem?_map, List.getElem?_eq_getElem (by simpa using hi), getElem!_pos _ i hi]
      simp
    · show ((W.heap.modify g _))[k]? = _
      rw [Array.getElem?_modify, if_neg (fun e => hn (by rw [← e]; rfl))]

/-- the shortcuts by which a node is come to, one behind the other -/
def wayF (S : List SC) (l : List LB) (back : Bool) : Nat → Int → List Int → Option (List Int)
  | 0, _, _ => none
  | left + 1, v, out => if labIs l v then
      (if (labAt l v).b = -1 then some (if back then out else out.reverse)
       else if 0 ≤ (labAt l v).b ∧ (labAt l v).b < S.length ∧ toS back (S.getD (labAt l v).b.toNat scZ) = v then wayF S l back left (frS back (S.getD (labAt l v).b.toNat scZ)) (out ++ [(labAt l v).b]) else none)
    else none
theorem wayF_len {S : List SC} {l : List LB} {back : Bool} : ∀ (left : Nat) (v : Int) (out o : List Int), wayF S l back left v out = some o → o.length < left + out.length
  | 0, _, _, _, h => by cases h
  | left + 1, v, out, o, h => by
    unfold wayF at h
    split at h
    · split at h
      · cases h
        split
        · omega
        · rw [List.length_reverse]; omega
      · split at h
        · have := wayF_len left _ _ _ h
          rw [List.length_append, List.length_singleton] at this
          omega
        · cases h
    · cases h
theorem wayF_miss {S : List SC} {l : List LB} {back : Bool} {left : Nat} {v : Int} {out : List Int} (h : labIs l v = false) : wayF S l back left v out = none := by
  cases left with
  | zero => rfl
  | succ left => unfold wayF; rw [h]; rfl
/-- what Way gives -/
def WayPost (res : Option (List Int)) (w : World) (e : Ending) (w' : World) : Prop :=
  ∃ (ao : Option Addr) (cap : Nat) (o : List Int) (b : Bool), e = .returned (.tuple #[.slice ao o.length cap, .bool b]) ∧ Cel w' ao (o.map encI) ∧ Below w.heap.size w w' ∧ ((res = some o ∧ b = true) ∨ (res = none ∧ o = [] ∧ b = false))
theorem WayPost.none {w w' : World} (hb : Below w.heap.size w w') {res : Option (List Int)} (h : res = Option.none) : WayPost res w (.returned (.tuple #[.slice Option.none 0 0, .bool false])) w' := ⟨Option.none, 0, [], false, rfl, Cel.nil _ _, hb, .inr ⟨h, rfl, rfl⟩⟩
/-- what holds at the label -/
def WyJ (w : World) (hb : Nat) (S : List SC) (l : List LB) (ao : Option Addr) (cap : Nat) (back : Bool) (res : Option (List Int)) (mm l0 : Nat) (a : Act) (wr : World) : Prop :=
  l0 = 0 ∧ ∃ u, a = lit 80 u ∧ u 0 = .pointer (some ⟨hb, 0, none⟩) ∧ u 1 = .slice ao l.length cap ∧ u 3 = .bool back ∧ ∃ (v : Int) (out : List Int) (left : Nat), u 2 = .int .i64 v ∧ u 10 = .int .i64 (left : Int) ∧ left ≤ mm ∧ out.length + left = l.length ∧
    Aside (wr.ownsRow w.heap.size 3 1 (u 8) out.length (out.map encI) ∧ Below w.heap.size w wr ∧ wayF S l back left v out = res)

set_option maxRecDepth 100000 in
set_option maxHeartbeats 4000000 in
theorem way_any (hb n : Nat) (es : List EdgeD) (R : List Int) (S : List SC) (O I : List (List Int)) (l : List LB) (ao : Option Addr) (cap : Nat) (v : Int) (back : Bool) (w : World) (hh : HierM w hb n es R S O I) (hends : ∀ x ∈ S, nodeN n x.f ∧ nodeN n x.t) (hc : Cel w ao (flatB l)) (hl : l.length ≤ 60000) :
    Calls Tryz.prog 39 #[.pointer (some ⟨hb, 0, none⟩), .slice ao l.length cap, .int .i64 v, .bool back] w (WayPost (wayF S l back l.length v []) w) := by
  have HH := Lib.hid (fun W (hz : Below w.heap.size w W) => hh.same (fun k hk => hz.block k hk))
  have HC := Lib.hid hc
  have HEN := Lib.hid hends
  have HFD := Lib.hid (fun u W (hz : Below w.heap.size w W) => find_any l ao cap u W (hc.go hz) (by omega))
  have hl2 : (l.length : Int) ≤ 60000 := by omega
  have hn6 := hh.small.1
  obtain ⟨res, hres⟩ : ∃ res, res = wayF S l back l.length v [] := ⟨_, rfl⟩
  have HRE := Lib.hid hres
  rw [← hres]
  clear hh hc hends hres
  go_enter Tryz.func39, Tryz.ntmps39
  repeat go_step
  refine wp_scope_into 0 l.length (WyJ w hb S l ao cap back res) rfl ?_ ?_ ?_ ?_
  · rintro m m' l0 a w' hle ⟨h1, u, h2, h3, h4, h5, v', out, left, h6, h7, h8, h9⟩
    exact ⟨h1, u, h2, h3, h4, h5, v', out, left, h6, h7, Nat.le_trans h8 hle, h9⟩
  · intro hcont
    have HCONT := Lib.hid hcont
    clear hcont
    repeat go_step
    go_step3
    go_step
    go_step
    refine HCONT.out _ _ ?_
    exact ⟨rfl, _, lit_of 80 _ rfl rfl, rfl, rfl, rfl, v, [], l.length, rfl, rfl, Nat.le_refl _, by simp, World.ownsRow_nil _ _ _ _, Below.refl _ _, HRE.out.symm⟩
  · rintro mm a wr ⟨_, u, rfl, h0, h1, h3, v', out, left, h2, h10, hmm, hol, HA⟩
    simp only [lit, List.range, List.range.loop, List.map_cons, List.map_nil, h0, h1, h2, h3, h10]
    obtain ⟨v8, hv8⟩ : ∃ v8, v8 = u 8 := ⟨_, rfl⟩
    obtain ⟨u9, hu9⟩ : ∃ u9, u9 = u 9 := ⟨_, rfl⟩
    rw [← hv8] at HA ⊢
    have HO := Lib.hid HA.out.1
    have HB := Lib.hid HA.out.2.1
    have HW := Lib.hid HA.out.2.2
    clear HA hv8 h0 h1 h2 h3 h10 hu9
    have HF := Lib.hid (HFD.out v' wr HB.out)
    cases hi : labIs l v' with
    | false =>
      have HN := Lib.hid (HW.out.symm.trans (wayF_miss hi))
      rw [hi] at HF
      clear hi HW
      generalize labAt l v' = y at *
      obtain ⟨yv, yd, yb⟩ := y
      simp only [encL] at HF
      go_wp2_with (go_at_call 31; refine HF.out.mono ?_; rintro e w1 ⟨rfl, hb1⟩; (have HB1 := Lib.hid hb1); clear hb1)
      simp only [jumps_ret]
      refine bodyPost_ret (v := .tuple #[.slice none 0 0, .bool false]) (by simp [results, Tryz.results39, go_sem]; try rfl) rfl ?_
      exact WayPost.none (HB.out.st (HB1.out.st (Below.of_al _ _))) HN.out
    | true =>
      rw [hi] at HF
      cases left with
      | zero =>
        have HN := Lib.hid (HW.out.symm.trans (show wayF S l back 0 v' out = none from rfl))
        have hz : (((0 : Nat) : Int) == 0) = true := rfl
        clear hi HW
        generalize labAt l v' = y at *
        obtain ⟨yv, yd, yb⟩ := y
        simp only [encL] at HF
        go_wp2_with (go_at_call 31; refine HF.out.mono ?_; rintro e w1 ⟨rfl, hb1⟩; (have HB1 := Lib.hid hb1); clear hb1)
        simp only [jumps_ret]
        refine bodyPost_ret (v := .tuple #[.slice none 0 0, .bool false]) (by simp [results, Tryz.results39, go_sem]; try rfl) rfl ?_
        exact WayPost.none (HB.out.st (HB1.out.st (Below.of_al _ _))) HN.out
      | succ left =>
        obtain ⟨L, hL⟩ : ∃ L : Int, L = ((left + 1 : Nat) : Int) := ⟨_, rfl⟩
        rw [← hL]
        have hz : (L == 0) = false := by rw [beq_eq_false_iff_ne]; omega
        have hl1 : L - 1 = (left : Int) := by omega
        have hll : L ≤ 60000 := by omega
        have hl0 : 0 < L := by omega
        have HMM := Lib.hid (And.intro hmm hL)
        have hol2 : out.length ≤ 60000 := by omega
        have HOL := Lib.hid hol
        clear hol hmm hL
        have HW2 := Lib.hid (HW.out.symm.trans (show wayF S l back (left + 1) v' out = (if (labAt l v').b = -1 then some (if back then out else out.reverse)
          else if 0 ≤ (labAt l v').b ∧ (labAt l v').b < S.length ∧ toS back (S.getD (labAt l v').b.toNat scZ) = v' then wayF S l back left (frS back (S.getD (labAt l v').b.toNat scZ)) (out ++ [(labAt l v').b]) else none) by
            conv => lhs; unfold wayF
            rw [hi]
            rfl))
        clear hi HW
        generalize labAt l v' = y at *
        obtain ⟨yv, yd, yb⟩ := y
        simp only [encL] at HF
        simp only at HW2
        by_cases hb1 : yb = -1
        · subst hb1
          rw [if_pos rfl] at HW2
          cases back with
          | true =>
            obtain ⟨oa, oc, e, hce⟩ := Cel.of_owns HO.out
            subst e
            have HCE := Lib.hid hce
            clear hce
            go_wp2_with (go_at_call 31; refine HF.out.mono ?_; rintro e w1 ⟨rfl, hb1⟩; (have HB1 := Lib.hid hb1); clear hb1)
            simp only [jumps_ret]
            refine bodyPost_ret (v := .tuple #[.slice oa out.length oc, .bool true]) (by simp [results, Tryz.results39, go_sem]; try rfl) rfl ?_
            exact ⟨oa, oc, out, true, rfl, HCE.out.go (HB1.out.st (Below.of_al _ _)), HB.out.st (HB1.out.st (Below.of_al _ _)), .inl ⟨HW2.out, rfl⟩⟩
          | false =>
            have HRV := Lib.hid (fun W (hz : Below wr.heap.size wr W) => rev_any w.heap.size v8 out W (hp_owns_go HO.out hz) (by omega))
            go_wp2_with (first
              | (go_at_call 31; refine HF.out.mono ?_; rintro e w1 ⟨rfl, hb1⟩; (have HB1 := Lib.hid hb1); clear hb1)
              | (go_at_call 91; refine (HRV.out _ (HB1.out.st (Below.of_al _ _))).mono ?_; rintro e w2 ⟨rfl, ⟨oa, oc, rfl, hce⟩, hof⟩; (have HCE := Lib.hid hce); (have HOF := Lib.hid hof); clear hce hof))
            simp only [jumps_ret]
            refine bodyPost_ret (v := .tuple #[.slice oa out.length oc, .bool true]) (by simp [results, Tryz.results39, go_sem]; try rfl) rfl ?_
            have hbz := HB.out.st (HB1.out.st (Below.of_al w1 (Obj.cells #[.int .i64 yv, .int .u64 yd, .int .i64 (-1)] 64)))
            exact ⟨oa, oc, out.reverse, true, by rw [List.length_reverse], HCE.out, hbz.trans (HOF.out.below hbz.size (fun k e => (HO.out.lt k e).1)), .inl ⟨HW2.out, rfl⟩⟩
        · rw [if_neg hb1] at HW2
          have hbn : (yb != -1) = true := by simpa using hb1
          by_cases hin : 0 ≤ yb ∧ yb < (S.length : Int)
          · obtain ⟨i, rfl⟩ : ∃ i : Nat, yb = i := ⟨yb.toNat, by omega⟩
            have hiS : i < S.length := by omega
            obtain ⟨⟨p0, p1⟩, ⟨q0, q1⟩⟩ := HEN.out _ (List.getElem_mem hiS)
            have HSC := Lib.hid (fun W hz => shortcut_any hb n es R S O I W (HH.out W hz) i hiS)
            rw [Int.toNat_natCast, sc_at hiS] at HW2
            generalize S[i] = x at *
            obtain ⟨xf, xt, xw, xe, xa, xb⟩ := x
            simp only [scV] at p0 p1 q0 q1 HSC
            obtain ⟨fn, rfl⟩ : ∃ fn : Nat, xf = fn := ⟨xf.toNat, by omega⟩
            obtain ⟨tn, rfl⟩ : ∃ tn : Nat, xt = tn := ⟨xt.toNat, by omega⟩
            have hfn : (fn : Int) ≤ 60000 := by omega
            have htn : (tn : Int) ≤ 60000 := by omega
            have hf0 : (0 : Int) ≤ (fn : Int) := by omega
            have ht0 : (0 : Int) ≤ (tn : Int) := by omega
            have hin1 := hin.1
            have hin2 := hin.2
            unfold frS toS at HW2
            clear hb1 hin p0 p1 q0 q1
            cases back with
            | false =>
              simp only [Bool.false_eq_true, if_false] at HW2
              by_cases hto : (tn : Int) = v'
              · subst hto
                rw [if_pos ⟨hin1, hin2, rfl⟩] at HW2
                have hsv : (fn : Int) + (tn : Int) - (tn : Int) = (fn : Int) := by omega
                have htt : ((tn : Int) == (tn : Int)) = true := by simp
                go_upto_region 9 with (first
                  | (go_at_call 31; refine HF.out.mono ?_; rintro e w1 ⟨rfl, hb1⟩; (have HB1 := Lib.hid hb1); clear hb1)
                  | (go_at_call 40; refine (HSC.out _ (HB.out.st (HB1.out.st (Below.of_al _ _)))).mono ?_; rintro e w2 ⟨rfl, hb2⟩; (have k2 := cell_later hb2 (show (w1.alloc (Obj.cells #[.int .i64 yv, .int .u64 yd, .int .i64 (i : Int)] 64)).cell? ⟨w1.heap.size, 2, none⟩ = some (.int .i64 (i : Int)) by go_simp)); (have HB2 := Lib.hid (HB1.out.st ((Below.of_al _ _).st hb2))); clear hb2))
                obtain ⟨W3, hW3⟩ : ∃ W3, W3 = w2.alloc (Obj.cells #[.int .i64 (fn : Int), .int .i64 (tn : Int), .int .u64 xw, .int .i64 xe, .int .i64 xa, .int .i64 xb] 79) := ⟨_, rfl⟩
                rw [← hW3]
                have hb3 : Below w2.heap.size w2 W3 := by rw [hW3]; exact Below.of_al _ _
                have k3 := cell_later hb3 k2
                have HB3 := Lib.hid (HB.out.st (HB2.out.st hb3))
                have HO3 := Lib.hid (hp_owns_go HO.out (HB2.out.st hb3))
                clear hW3 hb3 k2
                go_wp2_with (at_builtin; go_must (refine wpList_app w.heap.size 3 _ 1 8 elem_int Tryz.underlying25 v8 out.length (out.map encI) ⟨W3.heap.size, 0, none⟩ 1 1 [.int .i64 (i : Int)] rfl rfl (World.ownsRow.alloc HO3.out _) (cell_one_new _ _ _) (one_cells rfl) ⟨rfl, by decide, by omega, by omega, (by have := HB3.out.size; simp; omega)⟩ ?_); intro g6 cap6 w6 hown6 hgrow6 hbl6 hat6 hlt6; (have HO6 := Lib.hid hown6); (have HB6 := Lib.hid ((HB3.out.al _).trans hbl6)); clear hown6 hgrow6 hbl6 hat6 hlt6)
                go_step3
                repeat go_step
                rw [jumps_goto]
                obtain ⟨hmm, hLL⟩ := HMM.out
                have hol := HOL.out
                refine ⟨left, by omega, rfl, _, lit_of 80 _ rfl rfl, rfl, rfl, rfl, (fn : Int), out ++ [(i : Int)], left, rfl, rfl, Nat.le_refl _, by rw [List.length_append, List.length_singleton]; omega, ?_, HB6.out, HW2.out.symm⟩
                rw [List.length_append, List.map_append]
                exact HO6.out
              · rw [if_neg (fun h => hto h.2.2)] at HW2
                have hvt : ((tn : Int) == v') = false := by rw [beq_eq_false_iff_ne]; exact hto
                clear hto
                go_wp2_with (first
                  | (go_at_call 31; refine HF.out.mono ?_; rintro e w1 ⟨rfl, hb1⟩; (have HB1 := Lib.hid hb1); clear hb1)
                  | (go_at_call 40; refine (HSC.out _ (HB.out.st (HB1.out.st (Below.of_al _ _)))).mono ?_; rintro e w2 ⟨rfl, hb2⟩; (have HB2 := Lib.hid (HB1.out.st ((Below.of_al _ _).st hb2))); clear hb2))
                simp only [jumps_ret]
                refine bodyPost_ret (v := .tuple #[.slice none 0 0, .bool false]) (by simp [results, Tryz.results39, go_sem]; try rfl) rfl ?_
                exact WayPost.none (HB.out.st (HB2.out.st (Below.of_al _ _))) HW2.out
            | true =>
              simp only [if_true] at HW2
              by_cases hto : (fn : Int) = v'
              · subst hto
                rw [if_pos ⟨hin1, hin2, rfl⟩] at HW2
                have hsv : (fn : Int) + (tn : Int) - (fn : Int) = (tn : Int) := by omega
                have htt : ((fn : Int) == (fn : Int)) = true := by simp
                go_upto_region 9 with (first
                  | (go_at_call 31; refine HF.out.mono ?_; rintro e w1 ⟨rfl, hb1⟩; (have HB1 := Lib.hid hb1); clear hb1)
                  | (go_at_call 40; refine (HSC.out _ (HB.out.st (HB1.out.st (Below.of_al _ _)))).mono ?_; rintro e w2 ⟨rfl, hb2⟩; (have k2 := cell_later hb2 (show (w1.alloc (Obj.cells #[.int .i64 yv, .int .u64 yd, .int .i64 (i : Int)] 64)).cell? ⟨w1.heap.size, 2, none⟩ = some (.int .i64 (i : Int)) by go_simp)); (have HB2 := Lib.hid (HB1.out.st ((Below.of_al _ _).st hb2))); clear hb2))
                obtain ⟨W3, hW3⟩ : ∃ W3, W3 = w2.alloc (Obj.cells #[.int .i64 (fn : Int), .int .i64 (tn : Int), .int .u64 xw, .int .i64 xe, .int .i64 xa, .int .i64 xb] 79) := ⟨_, rfl⟩
                rw [← hW3]
                have hb3 : Below w2.heap.size w2 W3 := by rw [hW3]; exact Below.of_al _ _
                have k3 := cell_later hb3 k2
                have HB3 := Lib.hid (HB.out.st (HB2.out.st hb3))
                have HO3 := Lib.hid (hp_owns_go HO.out (HB2.out.st hb3))
                clear hW3 hb3 k2
                go_wp2_with (at_builtin; go_must (refine wpList_app w.heap.size 3 _ 1 8 elem_int Tryz.underlying25 v8 out.length (out.map encI) ⟨W3.heap.size, 0, none⟩ 1 1 [.int .i64 (i : Int)] rfl rfl (World.ownsRow.alloc HO3.out _) (cell_one_new _ _ _) (one_cells rfl) ⟨rfl, by decide, by omega, by omega, (by have := HB3.out.size; simp; omega)⟩ ?_); intro g6 cap6 w6 hown6 hgrow6 hbl6 hat6 hlt6; (have HO6 := Lib.hid hown6); (have HB6 := Lib.hid ((HB3.out.al _).trans hbl6)); clear hown6 hgrow6 hbl6 hat6 hlt6)
                go_step3
                repeat go_step
                rw [jumps_goto]
                obtain ⟨hmm, hLL⟩ := HMM.out
                have hol := HOL.out
                refine ⟨left, by omega, rfl, _, lit_of 80 _ rfl rfl, rfl, rfl, rfl, (tn : Int), out ++ [(i : Int)], left, rfl, rfl, Nat.le_refl _, by rw [List.length_append, List.length_singleton]; omega, ?_, HB6.out, HW2.out.symm⟩
                rw [List.length_append, List.map_append]
                exact HO6.out
              · rw [if_neg (fun h => hto h.2.2)] at HW2
                have hvt : ((fn : Int) == v') = false := by rw [beq_eq_false_iff_ne]; exact hto
                clear hto
                go_wp2_with (first
                  | (go_at_call 31; refine HF.out.mono ?_; rintro e w1 ⟨rfl, hb1⟩; (have HB1 := Lib.hid hb1); clear hb1)
                  | (go_at_call 40; refine (HSC.out _ (HB.out.st (HB1.out.st (Below.of_al _ _)))).mono ?_; rintro e w2 ⟨rfl, hb2⟩; (have HB2 := Lib.hid (HB1.out.st ((Below.of_al _ _).st hb2))); clear hb2))
                simp only [jumps_ret]
                refine bodyPost_ret (v := .tuple #[.slice none 0 0, .bool false]) (by simp [results, Tryz.results39, go_sem]; try rfl) rfl ?_
                exact WayPost.none (HB.out.st (HB2.out.st (Below.of_al _ _))) HW2.out
          · rw [if_neg (fun h => hin ⟨h.1, h.2.1⟩)] at HW2
            have HSC := Lib.hid (fun W hz => shortcut_none hb n es R S O I W (HH.out W hz) yb (by omega))
            simp only [scV, scZ] at HSC
            clear hin hb1
            go_wp2_with (first
              | (go_at_call 31; refine HF.out.mono ?_; rintro e w1 ⟨rfl, hb1⟩; (have HB1 := Lib.hid hb1); clear hb1)
              | (go_at_call 40; refine (HSC.out _ (HB.out.st (HB1.out.st (Below.of_al _ _)))).mono ?_; rintro e w2 ⟨rfl, hb2⟩; (have HB2 := Lib.hid (HB1.out.st ((Below.of_al _ _).st hb2))); clear hb2))
            simp only [jumps_ret]
            refine bodyPost_ret (v := .tuple #[.slice none 0 0, .bool false]) (by simp [results, Tryz.results39, go_sem]; try rfl) rfl ?_
            exact WayPost.none (HB.out.st (HB2.out.st (Below.of_al _ _))) HW2.out
  · rintro mm l0 a w' hne ⟨h, _⟩
    exact absurd h hne
end Go.Proofs.YtkdomobedfhhgaaGreat
end
