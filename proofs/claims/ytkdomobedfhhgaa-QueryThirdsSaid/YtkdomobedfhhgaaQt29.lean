/-
  What a hierarchy that is built is, in plain Lean: a rank, and shortcuts that are its hierarchy.
  Walk of package contract: which options may be.
  slices.Clone at ints, edges and shortcuts.
-/
import Derived.Test.YtkdomobedfhhgaaQt28
import Derived.Test.YtkdomobedfhhgaaQt23
import Derived.Test.YtkdomobedfhhgaaProg
import Derived.Test.YtkdomobedfhhgaaQt27
set_option linter.unusedVariables false
set_option linter.unusedSimpArgs false
set_option linter.unnecessarySimpa false
section
namespace Go.Proofs.Ytkdomobedfhhgaa
open Go.Proofs.Ytkdomobedfhhgaa.Ch

theorem invK_get {l : List Int} (hn : okPre l l.length) : ∀ (k p : Nat) (_hk : k ≤ l.length) (hp : p < k), (invK l k)[(l.getD p 0).toNat]? = some (p : Int)
  | k + 1, p, hk, hp => by
    have hlt : ∀ i, i < l.length → l.getD i 0 = l[i]! := fun i hi => by simp [List.getD, hi]
    have hin := fun i (hi : i < l.length) => hn i hi hi
    have hkl : k < l.length := by omega
    have hpl : p < l.length := by omega
    have ek : l.getD k 0 = l[k] := by simp [List.getD, hkl]
    have ep : l.getD p 0 = l[p] := by simp [List.getD, hpl]
    show ((invK l k).set (l.getD k 0).toNat k)[(l.getD p 0).toNat]? = _
    rw [List.getElem?_set]
    by_cases e : p = k
    · subst e
      rw [if_pos rfl, invK_length, if_pos (by rw [ep]; have := hin p hpl; omega)]
    · rw [if_neg (by
        rw [ek, ep]
        intro h
        have h1 := hin k hkl
        have h2 := hin p hpl
        exact h1.2.2 p (by omega) (by omega))]
      exact invK_get hn k p (by omega) (by omega)
theorem invL_length {l : List Int} (h : rankB l = true) : (invL l).length = l.length := by unfold invL; rw [if_pos h, invK_length]
theorem getD_in {l : List Int} {p : Nat} (hp : p < l.length) : l.getD p 0 = l[p] := by simp [List.getD, hp]
/-- what stands in the inverse -/
theorem invL_at {l : List Int} (h : rankB l = true) {p : Nat} (hp : p < l.length) : (invL l)[(l[p]).toNat]? = some (p : Int) := by
  have := invK_get (rankB_nodup h) l.length p (Nat.le_refl _) hp
  rw [getD_in hp] at this
  unfold invL
  rw [if_pos h]
  exact this
/-- each number has its place -/
theorem rank_place {l : List Int} (h : rankB l = true) {i : Nat} (hi : i < l.length) : ∃ p, ∃ hp : p < l.length, l[p] = (i : Int) := by
  have := rankB_sub h (i : Int) (mem_rngI.2 ⟨by omega, by omega⟩)
  obtain ⟨p, hp, e⟩ := List.mem_iff_getElem.1 this
  exact ⟨p, hp, e⟩
theorem invL_rank {l : List Int} (h : rankB l = true) : rankB (invL l) = true := by
  refine rankB_true fun x hx => ?_
  rw [invL_length h] at hx
  obtain ⟨h0, h1⟩ := mem_rngI.1 hx
  have hp : x.toNat < l.length := by omega
  have := List.mem_of_getElem? (invL_at h hp)
  rwa [Int.toNat_of_nonneg h0] at this
theorem invL_invL {l : List Int} (h : rankB l = true) : invL (invL l) = l := by
  have h2 := invL_rank h
  have hl := invL_length h
  apply List.ext_getElem?
  intro p
  by_cases hp : p < l.length
  · have hin := rankB_in h l[p] (List.getElem_mem hp)
    have h3 := invL_at h hp
    have hv : (l[p]).toNat < (invL l).length := by omega
    have h4 := invL_at h2 hv
    have e : (invL l)[(l[p]).toNat] = (p : Int) := Option.some.inj ((List.getElem?_eq_getElem hv).symm.trans h3)
    rw [e, Int.toNat_natCast] at h4
    rw [h4, List.getElem?_eq_getElem hp, Int.toNat_of_nonneg hin.1]
  · rw [List.getElem?_eq_none (by rw [invL_length h2]; omega), List.getElem?_eq_none (by omega)]


/-- what is built of a graph's edges -/
def BuiltOK (es : List EdgeD) (n : Nat) (R : List Int) (S : List SC) : Prop :=
  ∃ out c, Core (arcG es) (edgG es) n out c ∧ c.S = S ∧ rankB out = true ∧ out.length = n ∧ R = invL out
theorem rank_of {n : Nat} {out : List Int} (h1 : ∀ u ∈ out, nodeN n u) (h2 : out.Nodup) (h3 : ∀ u, nodeN n u → u ∈ out) : rankB out = true ∧ out.length = n := by
  have hl : out.length = n := by
    have a1 := sub_length out (rngI n) h2 (fun x hx => mem_rngI.2 (h1 x hx))
    have a2 := sub_length (rngI n) out (nodup_rngI n) (fun x hx => h3 x (mem_rngI.1 hx))
    rw [rngI_length] at a1 a2
    omega
  exact ⟨rankB_true (fun x hx => h3 x (by rw [hl] at hx; exact mem_rngI.1 hx)), hl⟩
theorem rank_at {out : List Int} (h : rankB out = true) {v : Int} (hv : nodeN out.length v) : (invL out)[v.toNat]? = some (rk out v) := by
  obtain ⟨p, hp, e⟩ := rank_place h (i := v.toNat) (by have := hv.1; have := hv.2; omega)
  have e2 : out[p] = v := by rw [e]; have := hv.1; omega
  have h1 := invL_at h hp
  rw [e2] at h1
  rw [h1]
  have hn := okPre_nodup (rankB_nodup h)
  have : out.idxOf v = p := by
    rw [← e2]
    exact hn.idxOf_getElem p hp
  unfold rk
  rw [this]
/-- the ranks, and the hierarchy -/
structure HierOK (es : List EdgeD) (n : Nat) (R : List Int) (S : List SC) (out : List Int) : Prop where
  h : Hier (arcG es) (srel S) (rk out) (nodeN n)
  len : R.length = n
  rank : rankB R = true
  at1 : ∀ v, nodeN n v → R[v.toNat]? = some (rk out v)
  made : Made (edgG es) (rk out) S
  ends : ∀ x ∈ S, nodeN n x.f ∧ nodeN n x.t ∧ x.f ≠ x.t ∧ 1 ≤ x.w
  big : ∀ x ∈ S, x.w ≤ 4294967296 * 2 ^ n
theorem BuiltOK.hier {es : List EdgeD} {n : Nat} {R : List Int} {S : List SC} (hE : EdgesOK n es) (h : BuiltOK es n R S) : ∃ out, HierOK es n R S out := by
  obtain ⟨out, c, hc, rfl, hr, hl, rfl⟩ := h
  have hall : ∀ v, nodeN n v → v ∈ out := fun v hv => rankB_sub hr v (by rw [hl]; exact mem_rngI.2 hv)
  refine ⟨out, hc.part.hier ?_ ?_ hall, by rw [invL_length hr, hl], invL_rank hr, ?_, hc.made, hc.inv.ends, ?_⟩
  · rintro u v w ⟨x, hx, _, _, rfl⟩
    exact (hE.ok x hx).2.2.2.1
  · rintro u v w ⟨x, hx, rfl, rfl, rfl⟩
    exact ⟨(hE.ok x hx).1, (hE.ok x hx).2.1⟩
  · intro v hv
    exact rank_at hr (by rw [hl]; exact hv)
  · intro x hx
    have := hc.big x hx
    rwa [hl] at this
end Go.Proofs.Ytkdomobedfhhgaa
end

section
namespace Go.Proofs.Ytkdomobedfhhgaa
open Go Go.Proofs Go.RowKit Go.Shelf Go.Proofs.Ytkdomobedfhhgaa.Hp Go.Proofs.Ytkdomobedfhhgaa.Ch

def inB (x : Int) : Bool := decide (1 ≤ x) && decide (x ≤ 1000)
def optB (hops settles : Int) (r : List Int) : Bool := inB hops && inB settles && rankB r
theorem right1_any (x : Int) (w : World) : Calls Try.prog 32 (#[.int .i64 x] ++ #[]) w fun e w' => e = .returned (.bool (inB x)) ∧ w = w' := by
  unfold inB
  go_enter Try.func32, Try.ntmps32
  go_wp2
  all_goals
    go_ret
    exact ⟨by simp [*] <;> omega, rfl⟩
set_option maxHeartbeats 1000000 in
theorem coRight_any (hops settles : Int) (r : List Int) (ao : Option Addr) (cap : Nat) (w : World) (hl : r.length ≤ 1000000) (hc : Cel w ao (r.map encI)) :
    Calls Try.prog 17 #[.agg #[.int .i64 hops, .int .i64 settles, .slice ao r.length cap]] w fun e w' => e = .returned (.bool (optB hops settles r)) ∧ Below w.heap.size w w' := by
  have HR := Lib.hid (fun W h => rkRight_any r ao cap W hl h)
  have HC := Lib.hid hc
  have H1 := Lib.hid (fun W => right1_any hops W)
  have H2 := Lib.hid (fun W => right1_any settles W)
  have HO := Lib.hid (show optB hops settles r = (inB hops && inB settles && rankB r) from rfl)
  generalize optB hops settles r = ob at *
  generalize inB hops = b1 at *
  generalize inB settles = b2 at *
  generalize rankB r = b3 at *
  clear hc
  cases b1 <;> cases b2
  all_goals
    go_enter Try.func17, Try.ntmps17
    go_wp2_with (first
      | (go_at_call 33; refine (HR.out _ (HC.out.go (Below.of_al _ _))).mono ?_; rintro e w1 ⟨rfl, hb1⟩)
      | (go_at_call_of 32 (Value.int .i64 hops); refine (H1.out _).mono ?_; rintro e w1 ⟨rfl, rfl⟩)
      | (go_at_call_of 32 (Value.int .i64 settles); refine (H2.out _).mono ?_; rintro e w1 ⟨rfl, rfl⟩))
    go_ret
    first
      | exact ⟨by rw [HO.out]; rfl, (Below.of_al _ _).st hb1⟩
      | exact ⟨by rw [HO.out]; rfl, Below.of_al _ _⟩

end Go.Proofs.Ytkdomobedfhhgaa
end

section
namespace Go.Proofs.Ytkdomobedfhhgaa
open Go Go.Proofs Go.RowKit Go.Shelf Go.Proofs.Ytkdomobedfhhgaa.Hp Go.Proofs.Ytkdomobedfhhgaa.Ch

/-- what a Clone gives: a row like it, in new memory -/
def CloPost (n : Nat) (xs : List Value) (w : World) (e : Ending) (w' : World) : Prop :=
  ∃ ao cap, e = .returned (.slice ao n cap) ∧ Cel w' ao xs ∧ Below w.heap.size w w' ∧ ∀ k, (Value.slice ao n cap).ownBlock = some k → w.heap.size ≤ k
set_option maxRecDepth 100000 in
set_option maxHeartbeats 1000000 in
theorem cloneI_any (n : Nat) (xs : List Value) (ao : Option Addr) (cap : Nat) (w : World) (hx : xs.length = n * 1) (h : Cel w ao xs) (h1 : ∀ u ∈ xs, u.oneCell' = true) (hl : n ≤ 1000000) :
    Calls Try.prog 21 #[.slice ao n cap] w (CloPost n xs w) := by
  have heq := Lib.run_eql_slice_nil (P := Try.prog) w 25 3 ao n cap 0 0 Try.underlying25
  unfold CloPost
  cases ao with
  | none =>
    have hn : n = 0 := by
      rcases xs with _ | ⟨x, r⟩
      · have : n * 1 = 0 := hx.symm
        omega
      · obtain ⟨b, o, e, _⟩ := h 0 x rfl
        cases e
    subst hn
    have hn2 : xs = [] := List.length_eq_zero_iff.1 (by simpa using hx)
    subst hn2
    simp only [Option.isNone] at heq
    clear h h1 hx
    go_enter Try.func21, Try.ntmps21
    go_wp2
    go_ret
    exact ⟨none, _, rfl, Cel.nil _ _, Below.refl _ _, fun k hk => by cases hk⟩
  | some a =>
    simp only [Option.isNone] at heq
    by_cases hn : n = 0
    · subst hn
      have hn2 : xs = [] := List.length_eq_zero_iff.1 (by simpa using hx)
      subst hn2
      clear h h1 hx
      go_enter Try.func21, Try.ntmps21
      go_wp2
      go_ret
      exact ⟨_, _, rfl, Cel.nil _ _, Below.of_al _ _, fun k hk => by cases hk; exact Nat.le_refl _⟩
    · have hpos : 0 < n := Nat.pos_of_ne_zero hn
      obtain ⟨gb, gof, e, -⟩ := h 0 _ (List.getElem?_eq_getElem (by omega))
      cases e
      have hlit : (w.alloc (.cells #[] 3)).ownsRow w.heap.size 3 1 (.slice (some ⟨w.heap.size, 0, none⟩) 0 0) 0 [] := World.ownsRow_lit (base := w.heap.size) (e := 3) (size := 1) w #[] 0 (Nat.le_refl _) (by unfold maxLen; omega) rfl
      obtain ⟨i0, hi, hz0, hsz, hby⟩ := info_parts hp_elemi.1
      have HL := Lib.hid hlit
      have HC := Lib.hid (h.go (Below.of_al w (.cells #[] 3)))
      have HX := Lib.hid hx
      have H1 := Lib.hid h1
      clear hlit h hx h1
      go_enter Try.func21, Try.ntmps21
      go_wp2_with (at_builtin; refine wpList_append_own _ rfl _ _ _ rfl w.heap.size 3 i0 (.int .i64 0) 1 8 Try.underlying25 hi hz0 hsz hby rfl (by decide) (.slice (some ⟨w.heap.size, 0, none⟩) 0 0) 0 [] rfl HL.out ⟨gb, gof, none⟩ n cap xs rfl HX.out (fun j u hj => by rw [Addr.add_lit]; obtain ⟨b', o', e, h⟩ := HC.out j u hj; cases e; exact h) H1.out (by unfold maxLen; omega) (by omega) (by simp) ?_; intro v1 w1 ho1 hg1 hn1)
      have hbl := (Below.of_al w (.cells #[] 3)).grown hg1 (by simp) (fun k hk => (HL.out.lt k hk).1)
      rw [Nat.zero_add, List.nil_append] at ho1
      obtain ⟨g, cap, rfl⟩ := own_form ho1 hpos
      go_ret
      obtain ⟨a2, c2, e, hc⟩ := Cel.of_owns ho1
      cases e
      exact ⟨_, _, rfl, hc, hbl, fun k hk => (ho1.lt k hk).1⟩
theorem elem_edge : Elem Try.prog 39 (.agg #[.int .i64 0, .int .i64 0, .int .u64 0]) 3 24 := ⟨by kernel_rfl, rfl, by decide⟩
set_option maxRecDepth 100000 in
set_option maxHeartbeats 1000000 in
theorem cloneE_any (n : Nat) (xs : List Value) (ao : Option Addr) (cap : Nat) (w : World) (hx : xs.length = n * 3) (h : Cel w ao xs) (h1 : ∀ u ∈ xs, u.oneCell' = true) (hl : n ≤ 1000000) :
    Calls Try.prog 44 #[.slice ao n cap] w (CloPost n xs w) := by
  have heq := Lib.run_eql_slice_nil (P := Try.prog) w 22 39 ao n cap 0 0 Try.underlying22
  unfold CloPost
  cases ao with
  | none =>
    have hn : n = 0 := by
      rcases xs with _ | ⟨x, r⟩
      · have : n * 3 = 0 := hx.symm
        omega
      · obtain ⟨b, o, e, _⟩ := h 0 x rfl
        cases e
    subst hn
    have hn2 : xs = [] := List.length_eq_zero_iff.1 (by simpa using hx)
    subst hn2
    simp only [Option.isNone] at heq
    clear h h1 hx
    go_enter Try.func44, Try.ntmps44
    go_wp2
    go_ret
    exact ⟨none, _, rfl, Cel.nil _ _, Below.refl _ _, fun k hk => by cases hk⟩
  | some a =>
    simp only [Option.isNone] at heq
    by_cases hn : n = 0
    · subst hn
      have hn2 : xs = [] := List.length_eq_zero_iff.1 (by simpa using hx)
      subst hn2
      clear h h1 hx
      go_enter Try.func44, Try.ntmps44
      go_wp2
      go_ret
      exact ⟨_, _, rfl, Cel.nil _ _, Below.of_al _ _, fun k hk => by cases hk; exact Nat.le_refl _⟩
    · have hpos : 0 < n := Nat.pos_of_ne_zero hn
      obtain ⟨gb, gof, e, -⟩ := h 0 _ (List.getElem?_eq_getElem (by omega))
      cases e
      have hlit : (w.alloc (.cells #[] 39)).ownsRow w.heap.size 39 3 (.slice (some ⟨w.heap.size, 0, none⟩) 0 0) 0 [] := World.ownsRow_lit (base := w.heap.size) (e := 39) (size := 3) w #[] 0 (Nat.le_refl _) (by unfold maxLen; omega) rfl
      obtain ⟨i0, hi, hz0, hsz, hby⟩ := info_parts elem_edge.1
      have HL := Lib.hid hlit
      have HC := Lib.hid (h.go (Below.of_al w (.cells #[] 39)))
      have HX := Lib.hid hx
      have H1 := Lib.hid h1
      clear hlit h hx h1
      go_enter Try.func44, Try.ntmps44
      go_wp2_with (at_builtin; refine wpList_append_own _ rfl _ _ _ rfl w.heap.size 39 i0 (.agg #[.int .i64 0, .int .i64 0, .int .u64 0]) 3 24 Try.underlying22 hi hz0 hsz hby rfl (by decide) (.slice (some ⟨w.heap.size, 0, none⟩) 0 0) 0 [] rfl HL.out ⟨gb, gof, none⟩ n cap xs rfl HX.out (fun j u hj => by rw [Addr.add_lit]; obtain ⟨b', o', e, h⟩ := HC.out j u hj; cases e; exact h) H1.out (by unfold maxLen; omega) (by omega) (by simp) ?_; intro v1 w1 ho1 hg1 hn1)
      have hbl := (Below.of_al w (.cells #[] 39)).grown hg1 (by simp) (fun k hk => (HL.out.lt k hk).1)
      rw [Nat.zero_add, List.nil_append] at ho1
      obtain ⟨g, cap, rfl⟩ := own_form ho1 hpos
      go_ret
      obtain ⟨a2, c2, e, hc⟩ := Cel.of_owns ho1
      cases e
      exact ⟨_, _, rfl, hc, hbl, fun k hk => (ho1.lt k hk).1⟩
set_option maxRecDepth 100000 in
set_option maxHeartbeats 1000000 in
theorem cloneS_any (n : Nat) (xs : List Value) (ao : Option Addr) (cap : Nat) (w : World) (hx : xs.length = n * 6) (h : Cel w ao xs) (h1 : ∀ u ∈ xs, u.oneCell' = true) (hl : n ≤ 1000000) :
    Calls Try.prog 45 #[.slice ao n cap] w (CloPost n xs w) := by
  have heq := Lib.run_eql_slice_nil (P := Try.prog) w 42 78 ao n cap 0 0 Try.underlying42
  unfold CloPost
  cases ao with
  | none =>
    have hn : n = 0 := by
      rcases xs with _ | ⟨x, r⟩
      · have : n * 6 = 0 := hx.symm
        omega
      · obtain ⟨b, o, e, _⟩ := h 0 x rfl
        cases e
    subst hn
    have hn2 : xs = [] := List.length_eq_zero_iff.1 (by simpa using hx)
    subst hn2
    simp only [Option.isNone] at heq
    clear h h1 hx
    go_enter Try.func45, Try.ntmps45
    go_wp2
    go_ret
    exact ⟨none, _, rfl, Cel.nil _ _, Below.refl _ _, fun k hk => by cases hk⟩
  | some a =>
    simp only [Option.isNone] at heq
    by_cases hn : n = 0
    · subst hn
      have hn2 : xs = [] := List.length_eq_zero_iff.1 (by simpa using hx)
      subst hn2
      clear h h1 hx
      go_enter Try.func45, Try.ntmps45
      go_wp2
      go_ret
      exact ⟨_, _, rfl, Cel.nil _ _, Below.of_al _ _, fun k hk => by cases hk; exact Nat.le_refl _⟩
    · have hpos : 0 < n := Nat.pos_of_ne_zero hn
      obtain ⟨gb, gof, e, -⟩ := h 0 _ (List.getElem?_eq_getElem (by omega))
      cases e
      have hlit : (w.alloc (.cells #[] 78)).ownsRow w.heap.size 78 6 (.slice (some ⟨w.heap.size, 0, none⟩) 0 0) 0 [] := World.ownsRow_lit (base := w.heap.size) (e := 78) (size := 6) w #[] 0 (Nat.le_refl _) (by unfold maxLen; omega) rfl
      obtain ⟨i0, hi, hz0, hsz, hby⟩ := info_parts elem_sc.1
      have HL := Lib.hid hlit
      have HC := Lib.hid (h.go (Below.of_al w (.cells #[] 78)))
      have HX := Lib.hid hx
      have H1 := Lib.hid h1
      clear hlit h hx h1
      go_enter Try.func45, Try.ntmps45
      go_wp2_with (at_builtin; refine wpList_append_own _ rfl _ _ _ rfl w.heap.size 78 i0 (.agg #[.int .i64 0, .int .i64 0, .int .u64 0, .int .i64 0, .int .i64 0, .int .i64 0]) 6 48 Try.underlying42 hi hz0 hsz hby rfl (by decide) (.slice (some ⟨w.heap.size, 0, none⟩) 0 0) 0 [] rfl HL.out ⟨gb, gof, none⟩ n cap xs rfl HX.out (fun j u hj => by rw [Addr.add_lit]; obtain ⟨b', o', e, h⟩ := HC.out j u hj; cases e; exact h) H1.out (by unfold maxLen; omega) (by omega) (by simp) ?_; intro v1 w1 ho1 hg1 hn1)
      have hbl := (Below.of_al w (.cells #[] 78)).grown hg1 (by simp) (fun k hk => (HL.out.lt k hk).1)
      rw [Nat.zero_add, List.nil_append] at ho1
      obtain ⟨g, cap, rfl⟩ := own_form ho1 hpos
      go_ret
      obtain ⟨a2, c2, e, hc⟩ := Cel.of_owns ho1
      cases e
      exact ⟨_, _, rfl, hc, hbl, fun k hk => (ho1.lt k hk).1⟩

end Go.Proofs.Ytkdomobedfhhgaa
end
