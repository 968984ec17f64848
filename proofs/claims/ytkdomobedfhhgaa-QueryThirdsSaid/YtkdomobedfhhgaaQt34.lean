/-
  What is built is made of its graph, in plain Lean.
  Walk of package hier: clones of hierarchies and of graphs.
-/
import Derived.Test.YtkdomobedfhhgaaQt33
import Derived.Test.YtkdomobedfhhgaaProg
set_option linter.unusedVariables false
set_option linter.unusedSimpArgs false
set_option linter.unnecessarySimpa false
section
namespace Go.Proofs.Ytkdomobedfhhgaa
open Go Go.Proofs Go.RowKit Go.Shelf Go.Proofs.Ytkdomobedfhhgaa.Hp Go.Proofs.Ytkdomobedfhhgaa.Ch

theorem rAt_rk {es : List EdgeD} {n : Nat} {R : List Int} {S : List SC} {out : List Int} (h : HierOK es n R S out) {v : Int} (hv : nodeN n v) : rAt R v = rk out v := by
  unfold rAt
  rw [List.getD_eq_getElem?_getD, h.at1 v hv]
  rfl
theorem big_n {n : Nat} (hn : n ≤ 26) : 4294967296 * 2 ^ n ≤ (288230376151711744 : Int) := by
  have h1 : (2 : Int) ^ n ≤ 2 ^ 26 := by
    have : (2 : Nat) ^ n ≤ 2 ^ 26 := Nat.pow_le_pow_right (by decide) hn
    exact_mod_cast this
  have h2 : (2 : Int) ^ 26 = 67108864 := by decide
  omega
theorem wrapU_in {x : Int} (h : 0 ≤ x ∧ x ≤ 18446744073709551615) : wrapU x = x := by
  unfold wrapU
  rw [IntKind.wrap_u64]
  omega
theorem made_built {es : List EdgeD} {n : Nat} {R : List Int} {S : List SC} {out : List Int} (h : HierOK es n R S out) (hn : n ≤ 26) : ∀ j, j < S.length → madeB es R S j = true := by
  intro j hj
  have hb := big_n hn
  have hd : S.getD j scZ = S[j] := by rw [List.getD_eq_getElem?_getD, List.getElem?_eq_getElem hj]; rfl
  have hx := h.made j S[j] (List.getElem?_eq_getElem hj)
  have he := h.ends S[j] (List.getElem_mem hj)
  have hbx := h.big S[j] (List.getElem_mem hj)
  unfold madeB
  rw [hd, Bool.or_eq_true]
  generalize S[j] = x at *
  rcases hx with ⟨⟨h1, h2⟩, h3, h4, h5⟩ | ⟨h1, a, b, y, z, h2, h3, h4, h5, h6, h7, h8, h9, h10, h11, h12, h13⟩
  · left
    unfold edgeF edgeB
    rw [h1, h4, h5]
    simp [h2, h3]
  · right
    have hya := List.mem_of_getElem? h6
    have hyz := List.mem_of_getElem? h7
    have ey := h.ends y hya
    unfold twoF pairF meetF scAt
    have e1 : S.getD x.a.toNat scZ = y := by rw [h2, Int.toNat_natCast, List.getD_eq_getElem?_getD, h6]; rfl
    have e2 : S.getD x.b.toNat scZ = z := by rw [h3, Int.toNat_natCast, List.getD_eq_getElem?_getD, h7]; rfl
    rw [e1, e2, h11, wrapU_in ⟨by omega, by omega⟩, rAt_rk h ey.2.1, rAt_rk h he.1, rAt_rk h he.2.1]
    have hmin : rk out y.t < min (rk out x.f) (rk out x.t) := by omega
    simp only [Bool.and_eq_true, decide_eq_true_eq, beq_iff_eq, Bool.not_eq_true', beq_eq_false_iff_ne]
    exact ⟨⟨⟨⟨h1, by omega, by omega⟩, by omega, by omega⟩, he.2.2.1⟩, ⟨⟨⟨h8, h9⟩, h10⟩, trivial⟩, hmin⟩
theorem madeR_built {g : GD} {n : Nat} {R : List Int} {S : List SC} {out : List Int} (hg : rightG g = 0) (hn : g.n = (n : Int)) (h : HierOK g.es n R S out) (hn26 : n ≤ 26) : madeR g R S = (0, true) := by
  unfold madeR
  rw [if_neg (by simp [hg]), if_neg (by rw [h.rank, h.len, hn]; simp), firstBad_none (made_built h hn26)]
end Go.Proofs.Ytkdomobedfhhgaa
end

section
namespace Go.Proofs.Ytkdomobedfhhgaa
open Go Go.Proofs Go.RowKit Go.Shelf Go.Proofs.Ytkdomobedfhhgaa.Hp Go.Proofs.Ytkdomobedfhhgaa.Ch

theorem one_int' {R : List Int} : ∀ u ∈ R.map encI, u.oneCell' = true := fun u hu => by obtain ⟨x, _, rfl⟩ := List.mem_map.1 hu; rfl
theorem one_flatS : ∀ {S : List SC}, ∀ u ∈ flatS S, u.oneCell' = true
  | [], u, h => by cases h
  | x :: S, u, h => by
    rw [flatS] at h
    rcases List.mem_append.1 h with h | h
    · exact one_sc x u h
    · exact one_flatS u h
theorem one_flat : ∀ {es : List EdgeD}, ∀ u ∈ flat es, u.oneCell' = true
  | [], u, h => by cases h
  | x :: es, u, h => by
    rw [flat] at h
    simp only [List.mem_cons] at h
    rcases h with rfl | rfl | rfl | h
    · rfl
    · rfl
    · rfl
    · exact one_flat u h
/-- a clone of a hierarchy -/
def CHPost (R : List Int) (S : List SC) (w : World) (e : Ending) (w' : World) : Prop :=
  ∃ ao ca bo cb, e = .returned (.agg #[.slice ao R.length ca, .slice bo S.length cb]) ∧ Cel w' ao (R.map encI) ∧ Cel w' bo (flatS S) ∧ Below w.heap.size w w' ∧ (∀ k, (Value.slice ao R.length ca).ownBlock = some k → w.heap.size ≤ k) ∧ ∀ k, (Value.slice bo S.length cb).ownBlock = some k → w.heap.size ≤ k
theorem ch_next {w W w1 w2 : World} {ro so : Option Addr} {rc sc : Nat} {R : List Int} {S : List SC} (hb : Below w1.heap.size w1 w2) (h : w1.cell? ⟨w.heap.size, 0, none⟩ = some (.slice ro R.length rc) ∧ w1.cell? ⟨w.heap.size, 1, none⟩ = some (.slice so S.length sc) ∧ w1.cell? ⟨w.heap.size + 1, 0, none⟩ = some (.slice none 0 0) ∧ w1.cell? ⟨w.heap.size + 1, 1, none⟩ = some (.slice none 0 0) ∧ w1.frozen? ⟨w.heap.size + 1, 0, none⟩ = false ∧ w1.frozen? ⟨w.heap.size + 1, 1, none⟩ = false ∧ w.heap.size + 1 < w1.heap.size ∧ Below W.heap.size W w1) : w2.cell? ⟨w.heap.size, 0, none⟩ = some (.slice ro R.length rc) ∧ w2.cell? ⟨w.heap.size, 1, none⟩ = some (.slice so S.length sc) ∧ w2.cell? ⟨w.heap.size + 1, 0, none⟩ = some (.slice none 0 0) ∧ w2.cell? ⟨w.heap.size + 1, 1, none⟩ = some (.slice none 0 0) ∧ w2.frozen? ⟨w.heap.size + 1, 0, none⟩ = false ∧ w2.frozen? ⟨w.heap.size + 1, 1, none⟩ = false ∧ w.heap.size + 1 < w2.heap.size ∧ Below W.heap.size W w2 := by
  obtain ⟨c0, c1, c2, c3, z0, z1, hs, hz⟩ := h
  exact ⟨cell_later hb c0, cell_later hb c1, cell_later hb c2, cell_later hb c3, (hb.frozen (p := ⟨w.heap.size + 1, 0, none⟩) hs).trans z0, (hb.frozen (p := ⟨w.heap.size + 1, 1, none⟩) hs).trans z1, Nat.lt_of_lt_of_le hs hb.size, hz.st hb⟩

set_option maxRecDepth 100000 in
set_option maxHeartbeats 4000000 in
theorem cloneH_any (R : List Int) (S : List SC) (ro so : Option Addr) (rc sc : Nat) (w : World) (hr : Cel w ro (R.map encI)) (hS : Cel w so (flatS S)) (hrl : R.length ≤ 1000000) (hsl : S.length ≤ 1000000) :
    Calls Try.prog 25 #[.agg #[.slice ro R.length rc, .slice so S.length sc]] w (CHPost R S w) := by
  obtain ⟨W, hW⟩ : ∃ W, W = (w.alloc (Obj.cells #[.slice ro R.length rc, .slice so S.length sc] 44)).alloc (Obj.cells #[.slice none 0 0, .slice none 0 0] 44) := ⟨_, rfl⟩
  have hbw : Below w.heap.size w W := by rw [hW]; exact (Below.of_al _ _).al _
  have HS0 := Lib.hid (show W.cell? ⟨w.heap.size, 0, none⟩ = some (.slice ro R.length rc) ∧ W.cell? ⟨w.heap.size, 1, none⟩ = some (.slice so S.length sc) ∧ W.cell? ⟨w.heap.size + 1, 0, none⟩ = some (.slice none 0 0) ∧ W.cell? ⟨w.heap.size + 1, 1, none⟩ = some (.slice none 0 0) ∧ W.frozen? ⟨w.heap.size + 1, 0, none⟩ = false ∧ W.frozen? ⟨w.heap.size + 1, 1, none⟩ = false ∧ w.heap.size + 1 < W.heap.size ∧ Below W.heap.size W W from ⟨by rw [hW]; go_simp, by rw [hW]; go_simp, by rw [hW]; go_simp, by rw [hW]; go_simp, by rw [hW]; go_simp, by rw [hW]; go_simp, by rw [hW]; simp, Below.refl _ _⟩)
  have HC1 := Lib.hid (fun W' (hb : Below W.heap.size W W') => cloneI_any R.length (R.map encI) ro rc W' (by simp) ((hr.go hbw).go hb) one_int' hrl)
  have HC2 := Lib.hid (fun W' (hb : Below W.heap.size W W') => cloneS_any S.length (flatS S) so sc W' (flatS_len S) ((hS.go hbw).go hb) one_flatS hsl)
  have HB := Lib.hid hbw
  have HW := Lib.hid hW
  unfold CloPost at HC1 HC2
  clear hW hbw hr hS
  go_enter Try.func25, Try.ntmps25
  go_upto_region 1 with (fail)
  rw [← HW.out]
  obtain ⟨e0, e1, e2, e3, e4, e5, e6, -⟩ := HS0.out
  go_region_with (first
    | (go_at_call 21; refine (HC1.out _ (Below.refl _ W).drew).mono ?_; rintro e w3 ⟨a1, c1, rfl, h1, hb1, hf1⟩; (have HS3 := Lib.hid (ch_next hb1 (ch_next (Below.refl _ W).drew HS0.out))); (obtain ⟨f0, f1, f2, f3, f4, f5, f6, -⟩ := HS3.out); (have H1 := Lib.hid (And.intro h1 (And.intro hf1 hb1))); clear h1 hf1 hb1)
    | (go_at_call 45; refine (HC2.out _ HS3.out.2.2.2.2.2.2.2).mono ?_; rintro e w4 ⟨a2, c2, rfl, h2, hb2, hf2⟩; (have HS4 := Lib.hid (ch_next hb2 HS3.out)); (obtain ⟨g0, g1, g2, g3, g4, g5, g6, -⟩ := HS4.out); (have H2 := Lib.hid (And.intro h2 (And.intro hf2 hb2))); clear h2 hf2 hb2))
  all_goals
    go_wp2_with fail
    obtain ⟨r0, r1⟩ := h2_read (.slice a1 R.length c1) (.slice a2 S.length c2) g2 g3
    refine bodyPost_ret (v := .agg #[.slice a1 R.length c1, .slice a2 S.length c2]) (by simp [results, Try.results25, go_sem, r0, r1]; try rfl) rfl ?_
    obtain ⟨h1, hf1, hb1⟩ := H1.out
    obtain ⟨h2, hf2, hb2⟩ := H2.out
    have hW1 : W.heap.size = W.drew.heap.size := rfl
    have hsz1 := hb1.size
    have hsz0 := HB.out.size
    have ho : OffX (· = w.heap.size + 1) w4 ((w4.setCell ⟨w.heap.size + 1, 0, none⟩ (.slice a1 R.length c1)).setCell ⟨w.heap.size + 1, 1, none⟩ (.slice a2 S.length c2)) :=
      (show OffX (· = w.heap.size + 1) w4 (w4.setCell ⟨w.heap.size + 1, 0, none⟩ (.slice a1 R.length c1)) from .set _ rfl).trans (.set _ rfl)
    have hb4 : Below w.heap.size w w4 := HB.out.trans (HS4.out.2.2.2.2.2.2.2.mono (by omega))
    exact ⟨a1, c1, a2, c2, rfl, cel_off (h1.go hb2) ho (fun k hk e => by have := hf1 k hk; have e2 : k = w.heap.size + 1 := e; omega), cel_off h2 ho (fun k hk e => by have := hf2 k hk; have e2 : k = w.heap.size + 1 := e; omega), hb4.trans (ho.below hb4.size (fun k hk => by have e2 : k = w.heap.size + 1 := hk; omega)), fun k hk => by have := hf1 k hk; omega, fun k hk => by have := hf2 k hk; omega⟩

/-- a clone of a graph -/
def CGPost (n : Int) (es : List EdgeD) (w : World) (e : Ending) (w' : World) : Prop :=
  ∃ ao ca, e = .returned (.agg #[.int .i64 n, .slice ao es.length ca]) ∧ Cel w' ao (flat es) ∧ Below w.heap.size w w' ∧ ∀ k, (Value.slice ao es.length ca).ownBlock = some k → w.heap.size ≤ k
theorem cg_next {w W w1 w2 : World} {ao : Option Addr} {cap : Nat} {n : Int} {es : List EdgeD} (hb : Below w1.heap.size w1 w2) (h : w1.cell? ⟨w.heap.size, 0, none⟩ = some (.int .i64 n) ∧ w1.cell? ⟨w.heap.size, 1, none⟩ = some (.slice ao es.length cap) ∧ w1.cell? ⟨w.heap.size + 1, 0, none⟩ = some (.int .i64 0) ∧ w1.cell? ⟨w.heap.size + 1, 1, none⟩ = some (.slice none 0 0) ∧ w1.frozen? ⟨w.heap.size + 1, 0, none⟩ = false ∧ w1.frozen? ⟨w.heap.size + 1, 1, none⟩ = false ∧ w.heap.size + 1 < w1.heap.size ∧ Below W.heap.size W w1) : w2.cell? ⟨w.heap.size, 0, none⟩ = some (.int .i64 n) ∧ w2.cell? ⟨w.heap.size, 1, none⟩ = some (.slice ao es.length cap) ∧ w2.cell? ⟨w.heap.size + 1, 0, none⟩ = some (.int .i64 0) ∧ w2.cell? ⟨w.heap.size + 1, 1, none⟩ = some (.slice none 0 0) ∧ w2.frozen? ⟨w.heap.size + 1, 0, none⟩ = false ∧ w2.frozen? ⟨w.heap.size + 1, 1, none⟩ = false ∧ w.heap.size + 1 < w2.heap.size ∧ Below W.heap.size W w2 := by
  obtain ⟨c0, c1, c2, c3, z0, z1, hs, hz⟩ := h
  exact ⟨cell_later hb c0, cell_later hb c1, cell_later hb c2, cell_later hb c3, (hb.frozen (p := ⟨w.heap.size + 1, 0, none⟩) hs).trans z0, (hb.frozen (p := ⟨w.heap.size + 1, 1, none⟩) hs).trans z1, Nat.lt_of_lt_of_le hs hb.size, hz.st hb⟩

set_option maxRecDepth 100000 in
set_option maxHeartbeats 4000000 in
theorem cloneG_any (n : Int) (es : List EdgeD) (ao : Option Addr) (cap : Nat) (w : World) (hc : Cel w ao (flat es)) (hl : es.length ≤ 1000000) :
    Calls Try.prog 24 #[gV n ao es.length cap] w (CGPost n es w) := by
  obtain ⟨W, hW⟩ : ∃ W, W = (w.alloc (Obj.cells #[.int .i64 n, .slice ao es.length cap] 24)).alloc (Obj.cells #[.int .i64 0, .slice none 0 0] 24) := ⟨_, rfl⟩
  have hbw : Below w.heap.size w W := by rw [hW]; exact (Below.of_al _ _).al _
  have HS0 := Lib.hid (show W.cell? ⟨w.heap.size, 0, none⟩ = some (.int .i64 n) ∧ W.cell? ⟨w.heap.size, 1, none⟩ = some (.slice ao es.length cap) ∧ W.cell? ⟨w.heap.size + 1, 0, none⟩ = some (.int .i64 0) ∧ W.cell? ⟨w.heap.size + 1, 1, none⟩ = some (.slice none 0 0) ∧ W.frozen? ⟨w.heap.size + 1, 0, none⟩ = false ∧ W.frozen? ⟨w.heap.size + 1, 1, none⟩ = false ∧ w.heap.size + 1 < W.heap.size ∧ Below W.heap.size W W from ⟨by rw [hW]; go_simp, by rw [hW]; go_simp, by rw [hW]; go_simp, by rw [hW]; go_simp, by rw [hW]; go_simp, by rw [hW]; go_simp, by rw [hW]; simp, Below.refl _ _⟩)
  have HC1 := Lib.hid (fun W' (hb : Below W.heap.size W W') => cloneE_any es.length (flat es) ao cap W' (flat_length es) ((hc.go hbw).go hb) one_flat hl)
  have HB := Lib.hid hbw
  have HW := Lib.hid hW
  unfold CloPost at HC1
  clear hW hbw hc
  go_enter Try.func24, Try.ntmps24
  go_upto_region 1 with (fail)
  rw [← HW.out]
  obtain ⟨e0, e1, e2, e3, e4, e5, e6, -⟩ := HS0.out
  go_region_with (go_at_call 44; refine (HC1.out _ (Below.refl _ W).drew).mono ?_; rintro e w3 ⟨a1, c1, rfl, h1, hb1, hf1⟩; (have HS3 := Lib.hid (cg_next hb1 (cg_next (Below.refl _ W).drew HS0.out))); (obtain ⟨f0, f1, f2, f3, f4, f5, f6, -⟩ := HS3.out); (have H1 := Lib.hid (And.intro h1 (And.intro hf1 hb1))); clear h1 hf1 hb1)
  all_goals
    go_wp2_with fail
    obtain ⟨r0, r1⟩ := h2_read (.int .i64 n) (.slice a1 es.length c1) f2 f3
    refine bodyPost_ret (v := .agg #[.int .i64 n, .slice a1 es.length c1]) (by simp [results, Try.results24, go_sem, r0, r1]; try rfl) rfl ?_
    obtain ⟨h1, hf1, hb1⟩ := H1.out
    have hW1 : W.heap.size = W.drew.heap.size := rfl
    have hsz1 := hb1.size
    have hsz0 := HB.out.size
    have ho : OffX (· = w.heap.size + 1) w3 ((w3.setCell ⟨w.heap.size + 1, 0, none⟩ (.int .i64 n)).setCell ⟨w.heap.size + 1, 1, none⟩ (.slice a1 es.length c1)) :=
      (show OffX (· = w.heap.size + 1) w3 (w3.setCell ⟨w.heap.size + 1, 0, none⟩ (.int .i64 n)) from .set _ rfl).trans (.set _ rfl)
    have hb4 : Below w.heap.size w w3 := HB.out.trans (HS3.out.2.2.2.2.2.2.2.mono (by omega))
    exact ⟨a1, c1, rfl, cel_off h1 ho (fun k hk e => by have := hf1 k hk; have e2 : k = w.heap.size + 1 := e; omega), hb4.trans (ho.below hb4.size (fun k hk => by have e2 : k = w.heap.size + 1 := hk; omega)), fun k hk => by have := hf1 k hk; omega⟩

end Go.Proofs.Ytkdomobedfhhgaa
end
