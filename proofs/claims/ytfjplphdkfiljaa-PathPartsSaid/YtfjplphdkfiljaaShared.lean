/-
  What two rows of edges share: the plain law, and the walks of Shared and of its reference.
-/
import Derived.Test.YtfjplphdkfiljaaProg
import Derived.Test.YtfjplphdkfiljaaSimple
namespace Go.Proofs.Ytfjplphdkfiljaa
open Go.Proofs Go.RowKit Go.Shelf Go.Maps

def sumR (f : Int → Int) : Nat → Int
  | 0 => 0
  | m + 1 => sumR f m + f m
theorem sumR_congr {f g : Int → Int} (h : ∀ e, f e = g e) : ∀ m, sumR f m = sumR g m
  | 0 => rfl
  | m + 1 => by rw [sumR, sumR, sumR_congr h m, h]
theorem sumR_diff {f g : Int → Int} {x c : Int} (hx : 0 ≤ x) (h : ∀ e, g e = f e + if e = x then c else 0) : ∀ m : Nat, sumR g m = sumR f m + if x < (m : Int) then c else 0
  | 0 => by rw [sumR, sumR, if_neg (by omega)]; rfl
  | m + 1 => by
    have ih := sumR_diff hx h m
    rw [sumR, sumR, ih, h]
    by_cases e : (m : Int) = x
    · rw [if_pos e, if_neg (by omega), if_pos (by omega)]; omega
    · rw [if_neg e]
      by_cases l : x < (m : Int)
      · rw [if_pos l, if_pos (by omega)]; omega
      · rw [if_neg l, if_neg (by omega)]; omega
theorem sumR_bd {f : Int → Int} {B : Int} (h : ∀ e, 0 ≤ f e ∧ f e ≤ B) : ∀ m : Nat, 0 ≤ sumR f m ∧ sumR f m ≤ m * B
  | 0 => by simp [sumR]
  | m + 1 => by
    have ih := sumR_bd h m
    have := h m
    rw [sumR]
    have e : ((m + 1 : Nat) : Int) * B = m * B + B := by rw [Int.natCast_add, Int.add_mul]; simp
    omega

/-- what the edges weigh that lie in both rows, each once -/
def shF (es : List EdgeD) (P M : List Int) : Int := sumR (fun e => if e ∈ P ∧ e ∈ M then wt es e else 0) es.length
theorem shF_comm (es : List EdgeD) (P M : List Int) : shF es P M = shF es M P := sumR_congr (fun e => by
  by_cases h : e ∈ P ∧ e ∈ M
  · rw [if_pos h, if_pos h.symm]
  · rw [if_neg h, if_neg (fun h' => h h'.symm)]) _
theorem shF_nil (es : List EdgeD) (M : List Int) : shF es [] M = 0 := by
  have : ∀ m, sumR (fun e => if e ∈ ([] : List Int) ∧ e ∈ M then wt es e else 0) m = 0 := fun m => by
    induction m with
    | zero => rfl
    | succ m ih => rw [sumR, ih]; simp
  exact this _
theorem shF_step {es : List EdgeD} {P M : List Int} {x : Int} (h0 : 0 ≤ x) (h1 : x < (es.length : Int)) :
    shF es (P ++ [x]) M = shF es P M + (if x ∈ P then 0 else if x ∈ M then wt es x else 0) := by
  unfold shF
  rw [sumR_diff (f := fun e => if e ∈ P ∧ e ∈ M then wt es e else 0) (x := x) (c := if x ∈ P then 0 else if x ∈ M then wt es x else 0) h0 (fun e => ?_), if_pos h1]
  by_cases e1 : e = x
  · subst e1
    by_cases p : e ∈ P <;> by_cases q : e ∈ M <;> simp [p, q]
  · simp [e1]
theorem shF_bd {g : GD} (hr : rightG g = 0) (P M : List Int) : 0 ≤ shF g.es P M ∧ shF g.es P M ≤ 70368744177664 := by
  have hb : ∀ e, 0 ≤ (if e ∈ P ∧ e ∈ M then wt g.es e else 0) ∧ (if e ∈ P ∧ e ∈ M then wt g.es e else 0) ≤ 4294967296 := fun e => by
    have hw : 0 ≤ wt g.es e ∧ wt g.es e ≤ 4294967296 := by
      unfold wt
      by_cases hj : e.toNat < g.es.length
      · have := right_weight hr (List.getElem_mem hj)
        simp only [List.getD, List.getElem?_eq_getElem hj, Option.getD_some]
        omega
      · simp [List.getD, List.getElem?_eq_none (Nat.le_of_not_lt hj), edD]
    split <;> omega
  have h1 := sumR_bd hb g.es.length
  have h2 := (rightG_bounds hr).2.2
  unfold shF
  have h3 : (g.es.length : Int) * 4294967296 ≤ 16384 * 4294967296 := Int.mul_le_mul_of_nonneg_right (by omega) (by omega)
  omega

def sharedG (g : GD) (a b : List Int) : Int := if edgesB g a && edgesB g b then shF g.es b a else 0

/-- the map's keys are the elements of A that are none of P -/
def LeftOf {H : Type} (D : DataW H) (A P : List Int) : Prop := ∀ x, has D (.int .i64 x) = (decide (x ∈ A) && !decide (x ∈ P))
theorem leftOf_start {H : Type} {D : DataW H} {A : List Int} (h : SetOf D A) : LeftOf D A [] := fun x => by rw [h.2.1 x]; simp
theorem leftOf_del {H : Type} {D : DataW H} {A P : List Int} (h : LeftOf D A P) (x : Int) : LeftOf (D.del (.int .i64 x)) A (P ++ [x]) := fun y => by
  by_cases e : y = x
  · subst e
    rw [has_del_same]
    simp
  · rw [has_del_other (fun h => e (by cases h; rfl)), h y]
    simp [e]
theorem leftOf_on {H : Type} {D : DataW H} {A P : List Int} (h : LeftOf D A P) {x : Int} (hx : has D (.int .i64 x) = false) : LeftOf D A (P ++ [x]) := fun y => by
  rw [h y]
  by_cases e : y = x
  · subst e
    rw [h y] at hx
    simp at hx ⊢
    exact hx
  · simp [e]

set_option maxRecDepth 100000 in
set_option maxHeartbeats 2000000 in
theorem Shared_any (g : GD) (ao bo co : Option Addr) (cap cb cc : Nat) (a b : List Int) (w : World) (hl : g.es.length ≤ 9223372036854775807) (hla : a.length ≤ 1048576) (hlb : b.length ≤ 1048576)
    (hc : Cel w ao (flat g.es)) (hd : Cel w bo (a.map encI)) (he : Cel w co (b.map encI)) :
    Calls Try.prog 40 #[.agg #[.int .i64 g.n, .slice ao g.es.length cap], .slice bo a.length cb, .slice co b.length cc] w fun e w' => e = .returned (.int .u64 (sharedG g a b)) ∧ Below w.heap.size w w' := by
  have HC := Lib.hid hc
  have HD := Lib.hid hd
  have HE := Lib.hid he
  clear hc hd he
  have X1 := Lib.hid (fun W h1 h2 => edges_any g ao bo cap cb a W hl (by omega) h1 h2)
  have X2 := Lib.hid (fun W h1 h2 => edges_any g ao co cap cc b W hl (by omega) h1 h2)
  have hmm := @run_makeMap Try.prog
  cases q1 : edgesB g a with
  | false =>
    have HR := Lib.hid (show sharedG g a b = 0 by unfold sharedG; rw [q1]; rfl)
    rw [q1] at X1
    clear q1
    generalize sharedG g a b = r at *
    go_enter Try.func40, Try.ntmps40
    go_wp2_with (go_at_call 56; refine (X1.out _ (HC.out.go (by repeat (first | exact Below.refl _ _ | refine Below.al ?_ _ | refine Below.dr ?_ _ | refine Below.drew ?_ | assumption | (refine Below.st ?_ (by assumption))))) (HD.out.go (by repeat (first | exact Below.refl _ _ | refine Below.al ?_ _ | refine Below.dr ?_ _ | refine Below.drew ?_ | assumption | (refine Below.st ?_ (by assumption)))))).mono ?_; rintro e w1 ⟨rfl, hb1⟩)
    go_ret
    exact ⟨by rw [HR.out]; rfl, by repeat (first | exact Below.refl _ _ | refine Below.al ?_ _ | refine Below.dr ?_ _ | refine Below.drew ?_ | assumption | (refine Below.st ?_ (by assumption)))⟩
  | true =>
    cases q2 : edgesB g b with
    | false =>
      have HR := Lib.hid (show sharedG g a b = 0 by unfold sharedG; rw [q1, q2]; rfl)
      rw [q1] at X1
      rw [q2] at X2
      clear q1 q2
      generalize sharedG g a b = r at *
      go_enter Try.func40, Try.ntmps40
      go_wp2_with fail
      obtain ⟨W, hW, c0, c1, hsW⟩ : ∃ W, W = w.alloc (Obj.cells #[.int .i64 g.n, .slice ao g.es.length cap] 38) ∧ W.cell? ⟨w.heap.size, 0, none⟩ = some (.int .i64 g.n) ∧ W.cell? ⟨w.heap.size, 1, none⟩ = some (.slice ao g.es.length cap) ∧ w.heap.size < W.heap.size := ⟨_, rfl, by go_simp, by go_simp, by simp⟩
      rw [← hW]
      have HW := Lib.hid (show Below w.heap.size w W by rw [hW]; repeat (first | exact Below.refl _ _ | refine Below.al ?_ _ | refine Below.dr ?_ _ | refine Below.drew ?_ | assumption | (refine Below.st ?_ (by assumption))))
      clear hW
      refine (X1.out _ (HC.out.go HW.out) (HD.out.go HW.out)).mono ?_
      rintro e w1 ⟨rfl, hb1⟩
      have m0 := cell_later hb1 c0
      have m1 := cell_later hb1 c1
      have HW1 := Lib.hid (HW.out.st hb1)
      clear c0 c1 hb1 hsW HW
      go_wp2_with fail
      refine (X2.out _ (HC.out.go HW1.out) (HE.out.go HW1.out)).mono ?_
      rintro e w2 ⟨rfl, hb2⟩
      go_wp2
      go_ret
      exact ⟨by rw [HR.out]; rfl, HW1.out.st hb2⟩
    | true =>
      have HR := Lib.hid (show sharedG g a b = shF g.es b a by unfold sharedG; rw [q1, q2]; rfl)
      have HMa := Lib.hid (fun e he => edgesB_mem q1 (e := e) he)
      have HMb := Lib.hid (fun e he => edgesB_mem q2 (e := e) he)
      have HWT := Lib.hid (fun e he => wt_bd q2 (e := e) he)
      have HS := Lib.hid (fun P M => shF_bd (edgesB_right q1) P M)
      have HG := Lib.hid (rightG_bounds (edgesB_right q1))
      rw [q1] at X1
      rw [q2] at X2
      clear q1 q2
      generalize sharedG g a b = r at *
      go_enter Try.func40, Try.ntmps40
      go_wp2_with fail
      obtain ⟨W, hW, c0, c1, hsW⟩ : ∃ W, W = w.alloc (Obj.cells #[.int .i64 g.n, .slice ao g.es.length cap] 38) ∧ W.cell? ⟨w.heap.size, 0, none⟩ = some (.int .i64 g.n) ∧ W.cell? ⟨w.heap.size, 1, none⟩ = some (.slice ao g.es.length cap) ∧ w.heap.size < W.heap.size := ⟨_, rfl, by go_simp, by go_simp, by simp⟩
      rw [← hW]
      have HW := Lib.hid (show Below w.heap.size w W by rw [hW]; repeat (first | exact Below.refl _ _ | refine Below.al ?_ _ | refine Below.dr ?_ _ | refine Below.drew ?_ | assumption | (refine Below.st ?_ (by assumption))))
      clear hW
      refine (X1.out _ (HC.out.go HW.out) (HD.out.go HW.out)).mono ?_
      rintro e w1 ⟨rfl, hb1⟩
      have m0 := cell_later hb1 c0
      have m1 := cell_later hb1 c1
      have HW1 := Lib.hid (HW.out.st hb1)
      clear c0 c1 hb1 hsW HW
      go_wp2_with fail
      refine (X2.out _ (HC.out.go HW1.out) (HE.out.go HW1.out)).mono ?_
      rintro e w2 ⟨rfl, hb2⟩
      have c0 := cell_later hb2 m0
      have c1 := cell_later hb2 m1
      have HW2 := Lib.hid (HW1.out.st hb2)
      clear m0 m1 hb2 HW1
      go_wp2
      go_loopg [27] a.length (fun gg i wr => ∃ (k : Nat) (D : DataW Unit), k ≤ a.length ∧ a.length - k ≤ gg ∧ i = .int .i64 k ∧ wr.ownsMap Try.prog 3 (plainElem Try.prog 3) w2.heap.size k D ∧ Aside (SetOf D (a.take k)) ∧ Aside (Below w2.heap.size w2 wr))
      case atStart => exact ⟨0, .map [], Nat.zero_le _, by omega, rfl, World.ownsMap_made _ _ _ _, setOf_nil, (Below.refl _ _).alloc (Nat.le_refl _) _⟩
      case round =>
        obtain ⟨k, D, hk, hg, rfl, hown, HS1, HB⟩ := hrel
        by_cases hlt : k < a.length
        · have hk0 : (0 : Int) ≤ (k : Int) := by omega
          have hlt3 : (k : Int) < (a.length : Int) := by omega
          obtain ⟨b1, o1, hao, hcell⟩ := (HD.out.go (HW2.out.st HB.out)).at hlt
          subst hao
          have hx := HMa.out _ (List.getElem_mem hlt)
          have H1 := Lib.hid (fun d => setOf_step (H := Unit) HS1.out hlt d)
          obtain ⟨x, hxe⟩ : ∃ x, a[k] = x := ⟨_, rfl⟩
          rw [hxe] at hcell hx H1
          clear hxe
          have hxw : (Lit.int .i64 x).wf = true := WalkArith.wf_i64 (by omega)
          have hkey : keyOf Try.prog 3 (.int .i64 x) = some (.int .i64 x) := keyOf_int_mk Try.underlying3 hxw
          go_wp2_with (at_mapUpdate; refine wpList_mapUpdate_own _ rfl _ _ _ 77 rfl 3 3 law_int Try.underlying77 _ w2.heap.size k _ rfl hown (by unfold maxLen; omega) _ _ _ rfl rfl hkey _ [] (plainElem_int Try.underlying3 hxw) ?_; intro w3 hown1 hgrow1)
          have HB2 := Lib.hid (HB.out.grown hgrow1 HB.out.size (fun j hj => by cases hj; exact Nat.le_refl _))
          go_roundg (a.length - (k + 1))
          case measure => omega
          case rel => exact ⟨k + 1, _, by omega, by omega, by go_num, hown1, H1.out _, HB2.out⟩
        · obtain rfl : k = a.length := by omega
          have HL0 := Lib.hid (leftOf_start (by have := HS1.out; rw [List.take_length] at this; exact this))
          clear HS1 hk hlt hg
          have hownA := hown
          clear hown
          have HBa := Lib.hid HB.out
          clear HB
          go_wp2
          go_loopg [6, 37] b.length (fun gg v i wr => ∃ (k : Nat) (x : Int) (D : DataW Unit), k ≤ b.length ∧ b.length - k ≤ gg ∧ i = .int .i64 k ∧ v = .int .u64 x ∧ wr.ownsMap Try.prog 3 (plainElem Try.prog 3) w2.heap.size a.length D ∧
            Aside (LeftOf D a (b.take k)) ∧ Aside (shF g.es (b.take k) a = x) ∧ Aside (Below w2.heap.size w2 wr))
          case atStart => exact ⟨0, 0, D, Nat.zero_le _, by omega, rfl, rfl, hownA, HL0.out, shF_nil _ _, HBa.out⟩
          case round =>
            clear hownA HL0 HBa
            obtain ⟨k, n, D, hk, hg, rfl, rfl, hown, HL, HN, HB⟩ := hrel
            by_cases hlt : k < b.length
            · have hk0 : (0 : Int) ≤ (k : Int) := by omega
              have hlt3 : (k : Int) < (b.length : Int) := by omega
              obtain ⟨b1, o1, hao, hcell⟩ := (HE.out.go (HW2.out.st HB.out)).at hlt
              have hx := HMb.out _ (List.getElem_mem hlt)
              obtain ⟨hw1, hw2, hj, hw3⟩ := HWT.out b[k] (List.getElem_mem hlt)
              obtain ⟨b2, o2, hao2, j1, j2, j3⟩ := (HC.out.go (HW2.out.st HB.out)).edge hj
              rw [← hw3] at j3
              have q0 := cell_later HB.out c0
              have q1 := cell_later HB.out c1
              have hst := shF_step (es := g.es) (P := b.take k) (M := a) hx.1 hx.2
              rw [← List.take_succ_eq_append_getElem hlt, HN.out] at hst
              have hbd := HS.out (b.take (k + 1)) a
              have hn0 := (HS.out (b.take k) a).1
              rw [HN.out] at hn0
              have hn1 := (HS.out (b.take k) a).2
              rw [HN.out] at hn1
              have htk := List.take_succ_eq_append_getElem hlt
              have hh := HL.out b[k]
              clear j1 j2 hw3
              obtain ⟨x, hxe⟩ : ∃ x, b[k] = x := ⟨_, rfl⟩
              rw [hxe] at hcell hx hst hw1 hw2 htk hh j3
              obtain ⟨wv, hwe⟩ : ∃ wv, wt g.es x = wv := ⟨_, rfl⟩
              rw [hwe] at hst hw1 hw2 j3
              subst hao hao2
              have hxw : (Lit.int .i64 x).wf = true := WalkArith.wf_i64 (by have := HG.out.2.2; omega)
              have hkey : keyOf Try.prog 3 (.int .i64 x) = some (.int .i64 x) := keyOf_int_mk Try.underlying3 hxw
              have i0 : 0 ≤ x := hx.1
              have i1 : x < (g.es.length : Int) := hx.2
              have w5 : IntKind.u64.wrap (n + wv) = n + wv := IntWalk.u64_in _ (by omega)
              have n5 : 0 ≤ n + wv := by omega
              have j3' : wr.cell? ⟨b2, o2 + x.toNat * 3 + 2, none⟩ = some (.int .u64 wv) := by rw [← hxe]; rw [← hxe] at j3; exact j3
              cases hin : has D (.int .i64 x) with
              | true =>
                have HLn := Lib.hid (by rw [htk]; exact leftOf_del HL.out x : LeftOf (D.del (.int .i64 x)) a (b.take (k + 1)))
                have HNn := Lib.hid (by
                  rw [hin] at hh
                  have h1 : ¬ x ∈ b.take k := by intro h; simp [h] at hh
                  have h2 : x ∈ a := by
                    rcases Decidable.em (x ∈ a) with h | h
                    · exact h
                    · simp [h] at hh
                  rw [if_neg h1, if_pos h2] at hst
                  exact hst : shF g.es (b.take (k + 1)) a = n + wv)
                clear hst htk hh hbd hxe hwe j3
                go_wp2_with (first
                  | (at_lookup; refine wpList_lookup_own_ok_int _ rfl _ _ 77 rfl 3 3 .i64 law_int Try.underlying77 Try.underlying3 (zero_int _) w2.heap.size a.length _ rfl hown _ _ rfl hkey ?_; intro c hat hwc)
                  | (at_delete; refine wpList_delete_own _ rfl _ _ 77 3 rfl 3 law_int Try.underlying77 _ w2.heap.size a.length D rfl hown _ _ rfl hkey ?_; intro w3 hown1 hturn1))
                have HB2 := Lib.hid (HB.out.grown hturn1.grown HB.out.size (fun j hj => by cases hj; exact Nat.le_refl _))
                go_roundg (b.length - (k + 1))
                case measure => omega
                case rel => exact ⟨k + 1, _, _, by omega, by omega, by go_num, rfl, hown1, HLn.out, HNn.out, HB2.out⟩
              | false =>
                have HLn := Lib.hid (by rw [htk]; exact leftOf_on HL.out hin : LeftOf D a (b.take (k + 1)))
                have HNn := Lib.hid (by
                  rw [hin] at hh
                  by_cases h1 : x ∈ b.take k
                  · rw [if_pos h1] at hst; omega
                  · rw [if_neg h1] at hst
                    have h2 : ¬ x ∈ a := by intro h; simp [h, h1] at hh
                    rw [if_neg h2] at hst; omega : shF g.es (b.take (k + 1)) a = n)
                clear hst htk hh hbd hxe hwe j3
                go_wp2_with (at_lookup; refine wpList_lookup_own_ok_int _ rfl _ _ 77 rfl 3 3 .i64 law_int Try.underlying77 Try.underlying3 (zero_int _) w2.heap.size a.length _ rfl hown _ _ rfl hkey ?_; intro c hat hwc)
                go_roundg (b.length - (k + 1))
                case measure => omega
                case rel => exact ⟨k + 1, _, _, by omega, by omega, by go_num, rfl, hown, HLn.out, HNn.out, HB.out⟩
            · obtain rfl : k = b.length := by omega
              have HRn := Lib.hid (by have := HN.out; rw [List.take_length] at this; exact this : shF g.es b a = n)
              go_wp2
              go_ret
              exact ⟨by rw [HR.out, HRn.out]; rfl, HW2.out.st HB.out⟩
end Go.Proofs.Ytfjplphdkfiljaa
