/-
  The hierarchy of two edges, one behind the other, whose inner node lies lowest, in plain Lean.
  The library's contracts that the proof uses, laid at this program by the kit's own command; no condition.
  The sweep down a hierarchy, and which labels are exact, in plain Lean.
  Walks at labels: slices.IndexFunc, slices.DeleteFunc, upward.Find.
  What the laws of upward ask of labels, in plain Lean.
  Walk of package upward: Way.
-/
import Derived.Test.YtkdomobedfhhgaaGreatRb01
import Derived.Test.YtkdomobedfhhgaaGreatRb09
import Derived.Shelf.Small.Bits
import Derived.Shelf.Small.Wraps
import Derived.Shelf.Strconv.Itoa0
import Derived.Shelf.Bits.Mul64
import Derived.Shelf.Slices.Reverse
import Derived.Ground.Names2Prog
import Derived.Shelf.Slices.Clone
import Derived.Shelf.Slices.SearchI
import Derived.Shelf.Slices.Cells
import Derived.Ground.SlgnProg
import Derived.Shelf.SlicesE.Clone
import Derived.Ground.SlsfProg
import Derived.Shelf.SlSortCmp.Insertion
import Derived.Test.YtkdomobedfhhgaaGreatProg
import Derived.Test.YtkdomobedfhhgaaGreatRb02
import Derived.Test.YtkdomobedfhhgaaGreatQb35
import Derived.Test.YtkdomobedfhhgaaGreatQb13
import Derived.Sort.Row
set_option linter.unusedVariables false
set_option linter.unusedSimpArgs false
set_option linter.unnecessarySimpa false
section
namespace Go.Proofs.YtkdomobedfhhgaaGreat
open Go Go.Proofs Go.RowKit Go.Shelf Go.Proofs.YtkdomobedfhhgaaGreat.Hp Go.Proofs.YtkdomobedfhhgaaGreat.Ch Go.Proofs.YtkdomobedfhhgaaGreat.Ro

abbrev e2E : List EdgeD := [⟨0, 1, 1⟩, ⟨1, 2, 1⟩]
abbrev e2R : List Int := [1, 0, 2]
theorem e2_arc {u v w : Int} : arcG e2E u v w ↔ (u = 0 ∧ v = 1 ∧ w = 1) ∨ (u = 1 ∧ v = 2 ∧ w = 1) := by
  unfold arcG e2E
  constructor
  · rintro ⟨x, hx, h1, h2, h3⟩
    rcases List.mem_cons.1 hx with rfl | hx
    · exact .inl ⟨h1.symm, h2.symm, h3.symm⟩
    · rw [List.mem_singleton] at hx
      subst hx
      exact .inr ⟨h1.symm, h2.symm, h3.symm⟩
  · rintro (⟨rfl, rfl, rfl⟩ | ⟨rfl, rfl, rfl⟩)
    · exact ⟨_, List.mem_cons_self .., rfl, rfl, rfl⟩
    · exact ⟨_, List.mem_cons_of_mem _ (List.mem_cons_self ..), rfl, rfl, rfl⟩
theorem e2_pos : ∀ u v w, arcG e2E u v w → 1 ≤ w := by
  intro u v w h
  rcases e2_arc.1 h with ⟨_, _, rfl⟩ | ⟨_, _, rfl⟩ <;> decide
theorem e2_in : ∀ u v w, arcG e2E u v w → nodeN 3 u ∧ nodeN 3 v ∧ 1 ≤ w ∧ w ≤ 4294967296 := by
  intro u v w h
  rcases e2_arc.1 h with ⟨rfl, rfl, rfl⟩ | ⟨rfl, rfl, rfl⟩ <;> exact ⟨⟨by decide, by decide⟩, ⟨by decide, by decide⟩, by decide, by decide⟩
theorem e2_way {p : Int → Prop} {u v d : Int} (h : Ch.Way (arcG e2E) p u v d) : (u = 0 ∧ v = 1 ∧ d = 1) ∨ (u = 1 ∧ v = 2 ∧ d = 1) ∨ (u = 0 ∧ v = 2 ∧ d = 2) := by
  induction h with
  | one h =>
    rcases e2_arc.1 h with h | h
    · exact .inl h
    · exact .inr (.inl h)
  | cons h1 _ _ ih =>
    rcases e2_arc.1 h1 with h | h <;> rcases ih with k | k | k <;> omega
theorem e2_dist {u v d : Int} (h : (u = 0 ∧ v = 1 ∧ d = 1) ∨ (u = 1 ∧ v = 2 ∧ d = 1) ∨ (u = 0 ∧ v = 2 ∧ d = 2)) : Dist (arcG e2E) u v d := by
  have a1 : arcG e2E 0 1 1 := e2_arc.2 (.inl ⟨rfl, rfl, rfl⟩)
  have a2 : arcG e2E 1 2 1 := e2_arc.2 (.inr ⟨rfl, rfl, rfl⟩)
  refine ⟨?_, fun e k => ?_⟩
  · rcases h with ⟨rfl, rfl, rfl⟩ | ⟨rfl, rfl, rfl⟩ | ⟨rfl, rfl, rfl⟩
    · exact .inr (.one a1)
    · exact .inr (.one a2)
    · exact .inr (.cons (w := 1) (d := 1) a1 trivial (.one a2))
  · rcases k with k | k
    · omega
    · have := e2_way k
      omega
theorem gS {S : List SC} {i : Nat} (hi : i < S.length) : S[i]? = some (S.getD i scZ) := by
  rw [List.getD_eq_getElem?_getD, List.getElem?_eq_getElem hi]
  rfl
/-- bounds -/
theorem made_bnd {es : List EdgeD} {R : List Int} {S : List SC} (h : ∀ j, j < S.length → madeB es R S j = true) (hl : es.length ≤ 1000000) (hs : S.length ≤ 1000000) : ∀ x ∈ S, -1 ≤ x.e ∧ x.e ≤ 1000000 ∧ -1 ≤ x.a ∧ x.a ≤ 1000000 ∧ -1 ≤ x.b ∧ x.b ≤ 1000000 := by
  intro y hy
  obtain ⟨j, hj, ej⟩ := List.getElem_of_mem hy
  have hyj : S.getD j scZ = y := by rw [List.getD_eq_getElem?_getD, List.getElem?_eq_getElem hj, ej]; rfl
  have hm := h j hj
  unfold madeB at hm
  rw [hyj, Bool.or_eq_true] at hm
  rcases hm with h1 | h1
  · obtain ⟨h0, z, hz, _⟩ := edgeF_e h1
    have := (List.getElem?_eq_some_iff.1 hz).1
    unfold edgeF at h1
    simp only [Bool.and_eq_true, beq_iff_eq] at h1
    obtain ⟨⟨⟨_, h2⟩, h3⟩, _⟩ := h1
    omega
  · obtain ⟨e, a, b, ea, eb, ha, hb, _⟩ := twoF_e h1
    omega
/-- what may stand there -/
def E2T (S : List SC) (i : Nat) (x : SC) : Prop :=
  (x.f = 0 ∧ x.t = 1 ∧ x.w = 1 ∧ x.e = 0) ∨ (x.f = 1 ∧ x.t = 2 ∧ x.w = 1 ∧ x.e = 1) ∨
  (x.f = 0 ∧ x.t = 2 ∧ x.w = 2 ∧ x.e = -1 ∧ ∃ a b : Nat, x.a = (a : Int) ∧ x.b = (b : Int) ∧ a < i ∧ b < i ∧ (S.getD a scZ).e = 0 ∧ (S.getD b scZ).e = 1)
theorem e2_shape {S : List SC} (h : ∀ j, j < S.length → madeB e2E e2R S j = true) : ∀ i, i < S.length → E2T S i (S.getD i scZ) := by
  intro i
  induction i using Nat.strongRecOn with
  | ind i ih =>
    intro hi
    have hm := h i hi
    unfold madeB at hm
    rw [Bool.or_eq_true] at hm
    rcases hm with h1 | h1
    · obtain ⟨h0, y, hy, e1, e2, e3⟩ := edgeF_e h1
      generalize S.getD i scZ = x at *
      obtain ⟨k, hk⟩ : ∃ k : Nat, x.e = (k : Int) := ⟨x.e.toNat, by omega⟩
      rw [hk, Int.toNat_natCast] at hy
      match k, hk, hy with
      | 0, hk, hy => cases hy; exact .inl ⟨e1.symm, e2.symm, e3.symm, hk⟩
      | 1, hk, hy => cases hy; exact .inr (.inl ⟨e1.symm, e2.symm, e3.symm, hk⟩)
      | k + 2, hk, hy => simp at hy
    · obtain ⟨e, a, b, ea, eb, ha, hb, h2, h3, h4, h5, h6, h7⟩ := twoF_e h1
      have ka := ih a ha (by omega)
      have kb := ih b hb (by omega)
      unfold E2T at ka kb
      rcases ka with ⟨a1, a2, a3, a4⟩ | ⟨a1, a2, a3, a4⟩ | ⟨a1, a2, a3, a4, _⟩ <;> rcases kb with ⟨b1, b2, b3, b4⟩ | ⟨b1, b2, b3, b4⟩ | ⟨b1, b2, b3, b4, _⟩
      all_goals try (exfalso; rw [a2, b1] at h3; revert h3; decide)
      rw [a3, b3] at h5
      have h5' : (S.getD i scZ).w = 2 := by rw [← h5]; decide
      exact .inr (.inr ⟨by rw [← h2, a1], by rw [← h4, b2], h5', e, a, b, ea, eb, ha, hb, a4, b4⟩)
theorem e2_un {S : List SC} {ro : List Int} (ho : HierOK e2E 3 e2R S ro) : FedS S ∧ 2 < S.length ∧ unL S 2 = [0, 1] ∧ ∀ x ∈ S, -1 ≤ x.e ∧ x.e ≤ 1000000 ∧ -1 ≤ x.a ∧ x.a ≤ 1000000 ∧ -1 ≤ x.b ∧ x.b ≤ 1000000 := by
  have hg : rightG ⟨3, e2E⟩ = 0 := by decide
  obtain ⟨_, _, _, hm⟩ := made_parts (madeR_built (g := ⟨3, e2E⟩) (n := 3) hg rfl ho (by decide))
  have hF := made_fed hm
  have hsh := e2_shape hm
  have hr : ∀ v : Int, nodeN 3 v → ∀ k : Int, e2R[v.toNat]? = some k → rk ro v = k := fun v hv k h => by
    have := ho.at1 v hv
    rw [h] at this
    exact (Option.some.inj this).symm
  have r0 := hr 0 ⟨by decide, by decide⟩ 1 rfl
  have r1 := hr 1 ⟨by decide, by decide⟩ 0 rfl
  have r2 := hr 2 ⟨by decide, by decide⟩ 2 rfl
  obtain ⟨x, hx, x1, x2, x3⟩ := ho.h.full 0 2 2 (by decide) (e2_dist (.inr (.inr ⟨rfl, rfl, rfl⟩))) (.cons (w := 1) (d := 1) (e2_arc.2 (.inl ⟨rfl, rfl, rfl⟩)) (by rw [r0, r1, r2]; decide) (.one (e2_arc.2 (.inr ⟨rfl, rfl, rfl⟩))))
  obtain ⟨i, hi, ei⟩ := List.getElem_of_mem hx
  have hxi : S.getD i scZ = x := by rw [List.getD_eq_getElem?_getD, List.getElem?_eq_getElem hi, ei]; rfl
  have once : ∀ p q, p < q → q < S.length → ¬ ((S.getD p scZ).f = (S.getD q scZ).f ∧ (S.getD p scZ).t = (S.getD q scZ).t) := by
    intro p q hpq hq hh
    have hl := ho.ltr p q _ _ hpq (gS (by omega)) (gS hq) hh.1 hh.2
    have kp := hsh p (by omega)
    have kq := hsh q hq
    unfold E2T at kp kq
    omega
  have ki := hsh i hi
  rw [hxi] at ki
  unfold E2T at ki
  rcases ki with ⟨_, k, _⟩ | ⟨k, _⟩ | ⟨_, _, _, ke, a, b, ea, eb, ha, hb, ka, kb⟩
  · omega
  · omega
  · have hab : a ≠ b := fun e => by rw [e, kb] at ka; revert ka; decide
    obtain ⟨tg, t1, t2⟩ : ∃ tg : Nat → Nat, (∀ p, tg p ≤ 2) ∧ ∀ p q, p < q → q < S.length → tg p ≠ tg q := by
      refine ⟨fun p => if (S.getD p scZ).f = 1 then 1 else if (S.getD p scZ).t = 1 then 0 else 2, fun p => ?_, fun p q hpq hq e => once p q hpq hq ?_⟩
      · dsimp only
        split
        · decide
        · split <;> decide
      · have kp := hsh p (by omega)
        have kq := hsh q hq
        unfold E2T at kp kq
        dsimp only at e
        rcases kp with ⟨p1, p2, _⟩ | ⟨p1, p2, _⟩ | ⟨p1, p2, _⟩ <;> rcases kq with ⟨q1, q2, _⟩ | ⟨q1, q2, _⟩ | ⟨q1, q2, _⟩
        all_goals rw [p1, q1, p2, q2] at e ⊢
        all_goals simp at e ⊢
    have hi2 : i = 2 := by
      refine Nat.le_antisymm (Classical.byContradiction fun hgt => ?_) (by omega)
      have := t1 0
      have := t1 1
      have := t1 2
      have := t1 i
      have := t2 0 1 (by omega) (by omega)
      have := t2 0 2 (by omega) (by omega)
      have := t2 1 2 (by omega) (by omega)
      have := t2 0 i (by omega) hi
      have := t2 1 i (by omega) hi
      have := t2 2 i (by omega) hi
      omega
    subst hi2
    refine ⟨hF, hi, ?_, ?_⟩
    · rw [unL_two hF hi (by rw [hxi, ke]; decide) (by rw [hxi]; exact ea) (by rw [hxi]; exact eb) ha hb, unL_edge (by rw [ka]; decide), unL_edge (by rw [kb]; decide), ka, kb]
      rfl
    · have hl3 : S.length ≤ 3 := by
        refine Classical.byContradiction fun hgt => ?_
        have := t1 0
        have := t1 1
        have := t1 2
        have := t1 3
        have := t2 0 1 (by omega) (by omega)
        have := t2 0 2 (by omega) (by omega)
        have := t2 1 2 (by omega) (by omega)
        have := t2 0 3 (by omega) (by omega)
        have := t2 1 3 (by omega) (by omega)
        have := t2 2 3 (by omega) (by omega)
        omega
      exact made_bnd hm (by decide) (by omega)
theorem e2_route {l : List Int} {x k : Int} (h : RouteIs 3 e2E 0 2 l x k) : k = 0 ∧ x = 2 ∧ l = [0, 1] := by
  have hd := e2_dist (u := 0) (v := 2) (d := 2) (.inr (.inr ⟨rfl, rfl, rfl⟩))
  rcases h with ⟨hk, _, _, hx, _, D, hD, hr⟩ | ⟨hk, _, _, hx⟩
  · have f0 : D 0 = 2 := FarV.uniq (hD 0 ⟨by decide, by decide⟩) (.inl ⟨hd, by decide, by decide⟩)
    have f1 : D 1 = 1 := FarV.uniq (hD 1 ⟨by decide, by decide⟩) (.inl ⟨e2_dist (.inr (.inl ⟨rfl, rfl, rfl⟩)), by decide, by decide⟩)
    have f2 : D 2 = 0 := FarV.uniq (hD 2 ⟨by decide, by decide⟩) (.inl ⟨Dist.self e2_pos 2, by decide, by decide⟩)
    have g0 : FirstE e2E D 0 0 := ⟨by decide, rfl, ⟨by show D 1 < _; rw [f1]; decide, by show D 1 + 1 = D 0; rw [f0, f1]; rfl⟩, fun j _ h => absurd h (Nat.not_lt_zero _)⟩
    have g1 : FirstE e2E D 1 1 := ⟨by decide, rfl, ⟨by show D 2 < _; rw [f2]; decide, by show D 2 + 1 = D 1; rw [f2, f1]; rfl⟩, fun j _ hj hf => by
      obtain rfl : j = 0 := by omega
      exact absurd (show (0 : Int) = 1 from hf) (by decide)⟩
    have hp : RP e2E D 0 [((0 : Nat) : Int), ((1 : Nat) : Int)] := .go g0 (by rw [f0]; decide) (.go (v := 1) g1 (by rw [f1]; decide) (.stop f2))
    exact ⟨hk, hx.uniq hd, hr.uniq hp⟩
  · rcases hx with ⟨h1, _⟩ | ⟨_, _, _, _, h1⟩ | ⟨_, _, h1⟩
    · exact absurd h1 hk
    · exact absurd hd.1 (h1 _)
    · exact absurd ⟨⟨by decide, by decide⟩, ⟨by decide, by decide⟩⟩ h1
end Go.Proofs.YtkdomobedfhhgaaGreat
end

section
namespace Go.Proofs
open Go.Shelf
def Tryz.lays112_ren : Go.Shelf.Ren := ⟨fun | 112 => 91 | n => n, fun | 28 => 25 | 3 => 3 | 4 => 4 | 0 => 0 | n => n, fun | n => n⟩
theorem Tryz.lays112 : Go.Proofs.Lays.n112 Tryz.prog Tryz.lays112_ren := {
  mixed := by kernel_rfl
  f112 := Tryz.func91.trans (congrArg some (by kernel_rfl))
  t0 := Tryz.underlying0
  a0 := Tryz.isAgg0
  z0 := Tryz.sizeOf0
  v0 := Tryz.zeroValue0
  t3 := Tryz.underlying3
  a3 := Tryz.isAgg3
  z3 := Tryz.sizeOf3
  v3 := Tryz.zeroValue3
  t4 := Tryz.underlying4
  a4 := Tryz.isAgg4
  z4 := Tryz.sizeOf4
  v4 := Tryz.zeroValue4
  t28 := Tryz.underlying25
  a28 := Tryz.isAgg25
  z28 := Tryz.sizeOf25
  v28 := Tryz.zeroValue25 }
open Go.RowKit Go.Lib Go.Sort in
theorem Tryz.slices_Reverse_int (blk off cap : Nat) (zs : List Int) (w : World) (hH : Holds (Value.int .i64) w blk off zs.toArray) (hsz : zs.length ≤ 9223372036854775807) :
    Calls Tryz.prog 91 #[.slice (some ⟨blk, off, none⟩) zs.length cap] w fun e w' => e = .returned (.tuple #[]) ∧ ∃ n, w' = putRow (Value.int .i64) (Sort.ahead w n) blk off zs.reverse.toArray := Any.slices_Reverse_int Tryz.lays112 blk off cap zs w hH hsz
open Go.RowKit Go.Lib Go.Sort in
theorem Tryz.slices_Reverse_int_empty (a : Option Addr) (cap : Nat) (w : World) :
    Calls Tryz.prog 91 #[.slice a 0 cap] w fun e w' => e = .returned (.tuple #[]) ∧ w' = w := Any.slices_Reverse_int_empty Tryz.lays112 a cap w

end Go.Proofs
end

section
namespace Go.Proofs.YtkdomobedfhhgaaGreat
open Go Go.Proofs Go.RowKit Go.Shelf Go.Proofs.YtkdomobedfhhgaaGreat.Hp Go.Proofs.YtkdomobedfhhgaaGreat.Ch

section
variable {es : List EdgeD} {n : Nat} {R : List Int} {S : List SC} {ro : List Int}
end
end Go.Proofs.YtkdomobedfhhgaaGreat
end

section
namespace Go.Proofs.YtkdomobedfhhgaaGreat
open Go Go.Proofs Go.RowKit Go.Shelf Go.Proofs.YtkdomobedfhhgaaGreat.Hp Go.Proofs.YtkdomobedfhhgaaGreat.Ch

end Go.Proofs.YtkdomobedfhhgaaGreat
end

section
namespace Go.Proofs.YtkdomobedfhhgaaGreat
open Go Go.Proofs Go.RowKit Go.Shelf Go.Proofs.YtkdomobedfhhgaaGreat.Hp Go.Proofs.YtkdomobedfhhgaaGreat.Ch

end Go.Proofs.YtkdomobedfhhgaaGreat
end

section
namespace Go.Proofs.YtkdomobedfhhgaaGreat
open Go Go.Proofs Go.RowKit Go.Shelf Go.Proofs.YtkdomobedfhhgaaGreat.Hp Go.Proofs.YtkdomobedfhhgaaGreat.Ch

end Go.Proofs.YtkdomobedfhhgaaGreat
end
