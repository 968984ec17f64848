/-
  Walk of package query where nothing was built: Dist, Peaks, Meet of none.
  The peaks at which both ends meet, told in two ways, in plain Lean.
  Walk over the reference of query: Peaks.
-/
import Derived.Test.YtkdomobedfhhgaaGreatProg
import Derived.Test.YtkdomobedfhhgaaGreatQb36
import Derived.Test.YtkdomobedfhhgaaGreatQc01
import Derived.Test.YtkdomobedfhhgaaGreatQc03
set_option linter.unusedVariables false
set_option linter.unusedSimpArgs false
set_option linter.unnecessarySimpa false
section
namespace Go.Proofs.YtkdomobedfhhgaaGreat
open Go Go.Proofs Go.RowKit Go.Shelf Go.Proofs.YtkdomobedfhhgaaGreat.Hp Go.Proofs.YtkdomobedfhhgaaGreat.Ch

theorem both_nil (s t : Int) (w : World) : Calls Tryz.prog 71 #[.pointer none, .int .i64 s, .int .i64 t] w fun e w' => e = .returned (.tuple #[.slice none 0 0, .slice none 0 0, .int .i64 1]) ∧ Below w.heap.size w w' := by
  have HA := Lib.hid (space_nil s false w)
  go_enter Tryz.func71, Tryz.ntmps71
  go_wp2_with (go_at_call 29; refine HA.out.mono ?_; rintro e w1 ⟨rfl, h2⟩; (have H1 := Lib.hid h2); clear h2)
  refine bodyPost_ret (v := .tuple #[.slice none 0 0, .slice none 0 0, .int .i64 1]) (by simp [results, Tryz.results71, go_sem]; try rfl) rfl ?_
  exact ⟨rfl, H1.out⟩
theorem dist_nil (s t : Int) (w : World) : Calls Tryz.prog 17 #[.pointer none, .int .i64 s, .int .i64 t] w fun e w' => e = .returned (.tuple #[.int .u64 0, .int .i64 1]) ∧ Below w.heap.size w w' := by
  have HA := Lib.hid (both_nil s t w)
  go_enter Tryz.func17, Tryz.ntmps17
  go_wp2_with (go_at_call 71; refine HA.out.mono ?_; rintro e w1 ⟨rfl, h2⟩; (have H1 := Lib.hid h2); clear h2)
  refine bodyPost_ret (v := .tuple #[.int .u64 0, .int .i64 1]) (by simp [results, Tryz.results17, go_sem]; try rfl) rfl ?_
  exact ⟨rfl, H1.out⟩
theorem peaks_nil (s t : Int) (w : World) : Calls Tryz.prog 18 #[.pointer none, .int .i64 s, .int .i64 t] w fun e w' => e = .returned (.tuple #[.slice none 0 0, .int .i64 1]) ∧ Below w.heap.size w w' := by
  have HA := Lib.hid (both_nil s t w)
  go_enter Tryz.func18, Tryz.ntmps18
  go_wp2_with (go_at_call 71; refine HA.out.mono ?_; rintro e w1 ⟨rfl, h2⟩; (have H1 := Lib.hid h2); clear h2)
  refine bodyPost_ret (v := .tuple #[.slice none 0 0, .int .i64 1]) (by simp [results, Tryz.results18, go_sem]; try rfl) rfl ?_
  exact ⟨rfl, H1.out⟩
theorem meet_nil (s t : Int) (w : World) : Calls Tryz.prog 19 #[.pointer none, .int .i64 s, .int .i64 t] w fun e w' => e = .returned (.tuple #[.int .i64 (-1), .int .u64 0, .int .i64 1]) ∧ Below w.heap.size w w' := by
  have HA := Lib.hid (peaks_nil s t w)
  go_enter Tryz.func19, Tryz.ntmps19
  go_wp2_with (go_at_call 18; refine HA.out.mono ?_; rintro e w1 ⟨rfl, h2⟩; (have H1 := Lib.hid h2); clear h2)
  refine bodyPost_ret (v := .tuple #[.int .i64 (-1), .int .u64 0, .int .i64 1]) (by simp [results, Tryz.results19, go_sem]; try rfl) rfl ?_
  exact ⟨rfl, H1.out⟩
end Go.Proofs.YtkdomobedfhhgaaGreat
end

section
namespace Go.Proofs.YtkdomobedfhhgaaGreat
open Go.Proofs.YtkdomobedfhhgaaGreat.Ch
theorem sorted_eq : ∀ {a b : List Int}, a.Pairwise (· < ·) → b.Pairwise (· < ·) → (∀ x, x ∈ a ↔ x ∈ b) → a = b
  | [], [], _, _, _ => rfl
  | [], y :: b, _, _, h => absurd ((h y).2 (by simp)) (by simp)
  | x :: a, [], _, _, h => absurd ((h x).1 (by simp)) (by simp)
  | x :: a, y :: b, ha, hb, h => by
    rw [List.pairwise_cons] at ha hb
    have e : x = y := by
      rcases List.mem_cons.1 ((h x).1 (by simp)) with e | h1
      · exact e
      · rcases List.mem_cons.1 ((h y).2 (by simp)) with e | h2
        · exact e.symm
        · have := hb.1 x h1
          have := ha.1 y h2
          omega
    subst e
    rw [sorted_eq ha.2 hb.2 fun z => ?_]
    have hz := h z
    rw [List.mem_cons, List.mem_cons] at hz
    constructor
    · intro k
      rcases hz.1 (.inr k) with e | k2
      · subst e; exact absurd (ha.1 z k) (by omega)
      · exact k2
    · intro k
      rcases hz.2 (.inr k) with e | k2
      · subst e; exact absurd (hb.1 z k) (by omega)
      · exact k2
/-- a node where both ends meet -/
def MeetAt (A : Int → Int → Int → Prop) (r : Int → Int) (s t d v : Int) : Prop := ∃ p q, p + q = d ∧ Peak A r s v p ∧ Peak (Turn A) r t v q
theorem peaksL_meet {es : List EdgeD} {n : Nat} {R : List Int} {S : List SC} {ro : List Int} {s t : Nat} {d : Int} {la lb : List LB} (hok : HierOK es n R S ro) (ha : Space (relB false (arcG es)) (XN S false) (rk ro) (s : Int) (la.map labOf)) (hb : Space (relB true (arcG es)) (XN S true) (rk ro) (t : Int) (lb.map labOf)) (hp : la.Pairwise (fun a b => a.v ≤ b.v)) (hd : Dist (arcG es) s t d) :
    (peaksL (byF lb) d la).Pairwise (· < ·) ∧ ∀ v, v ∈ peaksL (byF lb) d la ↔ MeetAt (arcG es) (rk ro) s t d v := by
  have hpw : lb.Pairwise (fun a b => a.v ≠ b.v) := by
    have h9 := hb.once
    rw [List.pairwise_map] at h9
    exact h9
  have hpa : la.Pairwise (fun a b => a.v ≠ b.v) := by
    have h9 := ha.once
    rw [List.pairwise_map] at h9
    exact h9
  have hH := hok.hierB false
  have hr0 : ∀ v, 0 ≤ rk ro v := fun v => by unfold rk; omega
  refine ⟨?_, fun v => ?_⟩
  · unfold peaksL
    rw [List.pairwise_map]
    exact ((hp.and hpa).imp fun h => by omega).filter _
  · have h1 := Space.peaks_both (A := arcG es) (X := XN S false) (Y := XN S true) hH (fun u v w => (XN_rel (back := true)).trans (show srel S v u w ↔ (XN S false).rel v u w from (XN_rel (back := false)).symm)) hr0 ha hb hd v
    unfold MeetAt
    rw [← h1]
    unfold peaksL
    constructor
    · intro h
      obtain ⟨x, hx, rfl⟩ := List.mem_map.1 h
      obtain ⟨hx1, hx2⟩ := List.mem_filter.1 hx
      unfold peakB at hx2
      cases hf : byF lb x.v with
      | none => rw [hf] at hx2; cases hx2
      | some y =>
        rw [hf] at hx2
        obtain ⟨z, hz, e, rfl⟩ := (byF_spec lb hpw _ _).1 hf
        exact ⟨labOf x, List.mem_map.2 ⟨x, hx1, rfl⟩, labOf z, List.mem_map.2 ⟨z, hz, rfl⟩, rfl, e, of_decide_eq_true hx2⟩
    · rintro ⟨a, ha1, b, hb1, rfl, e, e2⟩
      obtain ⟨x, hx, rfl⟩ := List.mem_map.1 ha1
      obtain ⟨z, hz, rfl⟩ := List.mem_map.1 hb1
      refine List.mem_map.2 ⟨x, List.mem_filter.2 ⟨hx, ?_⟩, rfl⟩
      unfold peakB
      rw [(byF_spec lb hpw x.v z.d).2 ⟨z, hz, e, rfl⟩]
      exact decide_eq_true e2
end Go.Proofs.YtkdomobedfhhgaaGreat
end

section
namespace Go.Proofs.YtkdomobedfhhgaaGreat
open Go Go.Proofs Go.RowKit Go.Shelf Go.Proofs.YtkdomobedfhhgaaGreat.Ch

/-- where both ends meet, told by how far all are -/
theorem meet_iff {A : Int → Int → Int → Prop} {r : Int → Int} {s t d v x y : Int} (hd : Dist A s t d) (hx : FarV A s v x) (hy : FarV (Turn A) t v y) :
    MeetAt A r s t d v ↔ x < 4611686018427387904 ∧ y < 4611686018427387904 ∧ x + y = d ∧ Peak A r s v x ∧ Peak (Turn A) r t v y := by
  constructor
  · rintro ⟨p, q, e, h1, h2⟩
    rcases hx with ⟨k1, k2, k3⟩ | ⟨_, k⟩
    · rcases hy with ⟨m1, m2, m3⟩ | ⟨_, k⟩
      · have e1 := k1.uniq h1.2.1
        have e2 := m1.uniq h2.2.1
        rw [e1, e2]
        exact ⟨by omega, by omega, e, h1, h2⟩
      · exact absurd h2.2.1.1 (k _)
    · exact absurd h1.2.1.1 (k _)
  · rintro ⟨_, _, e, h1, h2⟩
    exact ⟨x, y, e, h1, h2⟩
/-- the row while it grows -/
def MeetRow (A : Int → Int → Int → Prop) (r : Int → Int) (s t d : Int) (k : Nat) (l : List Int) : Prop := l.Pairwise (· < ·) ∧ ∀ v, v ∈ l ↔ (0 ≤ v ∧ v < (k : Int)) ∧ MeetAt A r s t d v
section
variable {A : Int → Int → Int → Prop} {r : Int → Int} {s t d : Int} {k : Nat} {l : List Int}
theorem MeetRow.zero : MeetRow A r s t d 0 [] := ⟨List.Pairwise.nil, fun v => ⟨fun h => by simp at h, fun h => by have := h.1; omega⟩⟩
theorem MeetRow.no (h : MeetRow A r s t d k l) (hm : ¬ MeetAt A r s t d k) : MeetRow A r s t d (k + 1) l := by
  refine ⟨h.1, fun v => (h.2 v).trans ⟨fun h2 => ⟨⟨h2.1.1, by omega⟩, h2.2⟩, fun h2 => ⟨⟨h2.1.1, ?_⟩, h2.2⟩⟩⟩
  have h1 : v ≠ (k : Int) := fun e => hm (by rw [← e]; exact h2.2)
  omega
theorem MeetRow.yes (h : MeetRow A r s t d k l) (hm : MeetAt A r s t d k) : MeetRow A r s t d (k + 1) (l ++ [(k : Int)]) := by
  refine ⟨List.pairwise_append.2 ⟨h.1, List.pairwise_singleton _ _, fun a ha b hb => ?_⟩, fun v => ?_⟩
  · rw [List.mem_singleton] at hb
    subst hb
    exact ((h.2 a).1 ha).1.2
  · rw [List.mem_append, List.mem_singleton, h.2 v]
    constructor
    · rintro (⟨⟨a, b⟩, c⟩ | rfl)
      · exact ⟨⟨a, by omega⟩, c⟩
      · exact ⟨⟨by omega, by omega⟩, hm⟩
    · rintro ⟨⟨a, b⟩, c⟩
      by_cases e : v = k
      · exact .inr e
      · exact .inl ⟨⟨a, by omega⟩, c⟩
theorem MeetRow.len (h : MeetRow A r s t d k l) : l.length ≤ k := by
  have key : ∀ (m : Nat) (l : List Int), l.Pairwise (· < ·) → (∀ v ∈ l, 0 ≤ v ∧ v < (m : Int)) → l.length ≤ m := by
    intro m
    induction m with
    | zero =>
      intro l _ h
      cases l with
      | nil => simp
      | cons x l => have := h x (by simp); omega
    | succ m ih =>
      intro l hp h
      rcases List.eq_nil_or_concat l with rfl | ⟨l', x, rfl⟩
      · simp
      · rw [List.concat_eq_append, List.pairwise_append] at hp
        rw [List.concat_eq_append] at h ⊢
        have h1 := ih l' hp.1 (fun v hv => by
          have h2 := h v (by simp [hv])
          have h3 := hp.2.2 v hv x (by simp)
          have h4 := h x (by simp)
          exact ⟨h2.1, by omega⟩)
        simp
        omega
  exact key k l h.1 (fun v hv => ((h.2 v).1 hv).1)
end
/-- what the reference's Peaks gives -/
def RefPeaks (A : Int → Int → Int → Prop) (r : Int → Int) (n : Nat) (s t d : Int) (w : World) (e : Ending) (w' : World) : Prop :=
  ∃ (ao : Option Addr) (ca : Nat) (l : List Int), e = .returned (.tuple #[.slice ao l.length ca, .int .u64 d]) ∧ Cel w' ao (l.map encI) ∧ Below w.heap.size w w' ∧ MeetRow A r s t d n l
/-- how far all are from the one and to the other -/
def FarP (W : World) (es : List EdgeD) (n s t : Nat) (v10 v11 : Value) (wc : World) : Prop :=
  ∃ (b1 b2 : Nat) (d1 d2 : List Int), v10 = .slice (some ⟨b1, 0, none⟩) n n ∧ v11 = .slice (some ⟨b2, 0, none⟩) n n ∧ Cel wc (some ⟨b1, 0, none⟩) (d1.map encW) ∧ Cel wc (some ⟨b2, 0, none⟩) (d2.map encW) ∧
    AllIs es n s false [] d1 ∧ AllIs es n t true [] d2 ∧ Below W.heap.size W wc
def pkR (gv : Value) (es : List EdgeD) (n s t : Nat) : Nat → Value → List Nat → (Nat → Value) → World → Prop
  | 0, v, _, _, _ => v = gv
  | 1, v, _, _, _ => v = .int .i64 (s : Int)
  | 2, v, _, _, W => ∃ (b : Nat) (d : List Int), v = .slice (some ⟨b, 0, none⟩) n n ∧ Cel W (some ⟨b, 0, none⟩) (d.map encW) ∧ AllIs es n s false [] d
  | 3, v, _, _, _ => v = gv
  | 4, v, _, _, _ => v = .int .i64 (t : Int)
  | 5, v, _, _, W => ∃ (b : Nat) (d : List Int), v = .slice (some ⟨b, 0, none⟩) n n ∧ Cel W (some ⟨b, 0, none⟩) (d.map encW) ∧ AllIs es n t true [] d
  | 6, v, _, vs, _ => v = vs 2
  | 7, v, _, vs, _ => v = vs 5
  | _, _, _, _, _ => True
theorem pkR_go {gv : Value} {es : List EdgeD} {n s t : Nat} : ∀ (i : Nat) (v : Value) (g : List Nat) (vs : Nat → Value) (w w' : World), Below w.heap.size w w' → pkR gv es n s t i v g vs w → pkR gv es n s t i v g vs w'
  | 0, _, _, _, _, _, _, h | 1, _, _, _, _, _, _, h | 3, _, _, _, _, _, _, h | 4, _, _, _, _, _, _, h | 6, _, _, _, _, _, _, h | 7, _, _, _, _, _, _, h => h
  | 2, _, _, _, _, _, hb, h => let ⟨b, d, h1, h2, h3⟩ := h; ⟨b, d, h1, h2.go hb, h3⟩
  | 5, _, _, _, _, _, hb, h => let ⟨b, d, h1, h2, h3⟩ := h; ⟨b, d, h1, h2.go hb, h3⟩
  | _ + 8, _, _, _, _, _, _, _ => trivial
theorem row_at {wr : World} {b n : Nat} {d : List Int} (h : Cel wr (some ⟨b, 0, none⟩) (d.map encW)) (hl : d.length = n) {u : Nat} (hu : u < n) : wr.cell? ⟨b, u, none⟩ = some (.int .u64 (gD d (u : Int))) := by
  obtain ⟨b', o', e, h1⟩ := h u (.int .u64 (gD d (u : Int))) (by
    rw [List.getElem?_map]
    unfold gD
    rw [Int.toNat_natCast, List.getD_eq_getElem?_getD, List.getElem?_eq_getElem (by omega)]
    rfl)
  cases e
  rw [Nat.zero_add] at h1
  exact h1
theorem refPeak_bool (n s v : Nat) (es : List EdgeD) (R : List Int) (S : List SC) (ro : List Int) (ao ra : Option Addr) (cap rc : Nat) (back : Bool) (d : Int) (hg : rightG ⟨(n : Int), es⟩ = 0) (hok : HierOK es n R S ro) (hn : n ≤ 12) (hes : es.length ≤ 40) (hs : s < n) (hv : v < n)
    (hd : FarV (relB back (arcG es)) (s : Int) (v : Int) d) : ∃ b : Bool, (b = true ↔ Peak (relB back (arcG es)) (rk ro) s v d) ∧ ∀ w, Cel w ao (flat es) → Cel w ra (R.map encI) →
    Calls Tryz.prog 32 #[.agg #[.int .i64 (n : Int), .slice ao es.length cap], .slice ra R.length rc, .int .i64 (s : Int), .int .i64 (v : Int), .bool back, .int .u64 d] w fun e w' => e = .returned (.bool b) ∧ Below w.heap.size w w' := by
  classical
  refine ⟨decide (Peak (relB back (arcG es)) (rk ro) s v d), by simp, fun w hc hR => ?_⟩
  refine (refPeak_any n s v es R S ro ao ra cap rc back d w hg hok hn hes hs hv hd hc hR).mono ?_
  rintro e w' ⟨b, rfl, h1, h2⟩
  refine ⟨?_, h2⟩
  congr 2
  cases b
  · exact (decide_eq_false fun k => by cases h1.2 k).symm
  · exact (decide_eq_true (h1.1 rfl)).symm
set_option maxRecDepth 100000 in
set_option maxHeartbeats 4000000 in
theorem refPeaks_any (n s t : Nat) (es : List EdgeD) (R : List Int) (S : List SC) (ro : List Int) (ao ra : Option Addr) (cap rc : Nat) (d : Int) (w : World) (hg : rightG ⟨(n : Int), es⟩ = 0) (hok : HierOK es n R S ro) (hn : n ≤ 12) (hes : es.length ≤ 40) (hs : s < n) (ht : t < n)
    (hd : Dist (arcG es) s t d) (hd2 : d ≤ 1152921504606846976) (hc : Cel w ao (flat es)) (hR : Cel w ra (R.map encI)) :
    Calls Tryz.prog 22 #[.agg #[.int .i64 (n : Int), .slice ao es.length cap], .slice ra R.length rc, .int .i64 (s : Int), .int .i64 (t : Int)] w (RefPeaks (arcG es) (rk ro) n s t d w) := by
  obtain ⟨W, hW⟩ : ∃ W, W = w.alloc (Obj.cells #[.int .i64 (n : Int), .slice ao es.length cap] 24) := ⟨_, rfl⟩
  have hbw : Below w.heap.size w W := by rw [hW]; exact Below.of_al _ _
  have c0 : W.cell? ⟨w.heap.size, 0, none⟩ = some (.int .i64 (n : Int)) := by rw [hW]; go_simp
  have c1 : W.cell? ⟨w.heap.size, 1, none⟩ = some (.slice ao es.length cap) := by rw [hW]; go_simp
  have HW := Lib.hid hW
  have HB := Lib.hid hbw
  have HSW := Lib.hid (show W.heap.size = w.heap.size + 1 by rw [hW]; simp)
  have hposF : ∀ u v w, relB false (arcG es) u v w → 1 ≤ w := (hok.hierB false).pos
  have hposT : ∀ u v w, relB true (arcG es) u v w → 1 ≤ w := (hok.hierB true).pos
  have HF1 := Lib.hid (fun WX (hz : Below W.heap.size W WX) => refFar_any n s es ao cap false WX hg hn hes hs ((hc.go hbw).go hz))
  have HF2 := Lib.hid (fun WX (hz : Below W.heap.size W WX) => refFar_any n t es ao cap true WX hg hn hes ht ((hc.go hbw).go hz))
  have HPK := Lib.hid (fun (s v : Nat) back d hs hv hd => refPeak_bool n s v es R S ro ao ra cap rc back d hg hok hn hes hs hv hd)
  have HCR := Lib.hid (fun WX (hz : Below W.heap.size W WX) => And.intro ((hc.go hbw).go hz) ((hR.go hbw).go hz))
  have HA1 := Lib.hid (fun (d1 : List Int) (h : AllIs es n s false [] d1) (v : Int) (hv : node n v) => (h.far hposF hv : FarV (relB false (arcG es)) s v (gD d1 v)))
  have HA2 := Lib.hid (fun (d1 : List Int) (h : AllIs es n t true [] d1) (v : Int) (hv : node n v) => (h.far hposT hv : FarV (relB true (arcG es)) t v (gD d1 v)))
  have HMI := Lib.hid (fun (v x y : Int) (hx : FarV (relB false (arcG es)) s v x) (hy : FarV (relB true (arcG es)) t v y) => (meet_iff hd hx hy : MeetAt (arcG es) (rk ro) s t d v ↔ _))
  have HDT := Lib.hid (fun (x : Int) (hx : FarV (relB false (arcG es)) s (t : Int) x) => show x = d from by
    rcases hx with ⟨k, _⟩ | ⟨_, k⟩
    · exact k.uniq hd
    · exact absurd hd.1 (k _))
  have hRl := hok.len
  have HRL := Lib.hid hRl
  have hs0 : (0 : Int) ≤ (s : Int) := by omega
  have hs1 : (s : Int) < (n : Int) := by omega
  have ht0 : (0 : Int) ≤ (t : Int) := by omega
  have ht1 : (t : Int) < (n : Int) := by omega
  have hd0 : 0 ≤ d := hd.1.nonneg hposF
  have hdF : d < 4611686018427387904 := by omega
  have HD0 := Lib.hid hd
  clear hW hbw hc hR hok hposF hposT hd hRl
  unfold RefPeaks
  go_enter Tryz.func22, Tryz.ntmps22
  go_upto_region 1 with (fail)
  rw [← HW.out]
  go_cut [10, 11] from 12 (fun v10 v11 wc => FarP W es n s t v10 v11 wc)
  case first =>
    rename_i J K2 hJ hK2
    refine wp_region_grows (pkR (.agg #[.int .i64 (n : Int), .slice ao es.length cap]) es n s t) (by kernel_rfl) (by kernel_rfl) ?_ ?_ ?_ ?_
    case refine_1 => exact pkR_go
    case refine_2 =>
      intro i v g vs vs' w1 h hr
      match i with
      | 0 | 1 | 2 | 3 | 4 | 5 => exact hr
      | 6 => (have h2 := h 2 (by rfl)); (show v = _; rw [h2]; exact hr)
      | 7 => (have h5 := h 5 (by rfl)); (show v = _; rw [h5]; exact hr)
      | i + 8 => trivial
    case refine_3 =>
      refine ⟨?_, ?_, ?_, ?_, ?_, ?_, ?_, ?_, trivial⟩ -- ISO
      · intro vs w' hbe hd K hK
        have hm0 : True := trivial
        have q0 := cell_later hbe c0
        have q1 := cell_later hbe c1
        simp only [puts, dstAt, List.getElem?_cons_zero, List.getElem?_cons_succ, Option.bind_some, Option.getD_some, Act.put, List.length_cons, List.length_nil, Nat.reduceAdd, List.setIfInBounds_toArray, List.set_cons_zero, List.set_cons_succ, q0, q1] at hK ⊢
        simp [Oper.wp, execOp, Oper.upon, go_sem, Act.eval, Act.put, q0, q1]
        exact hK _ [] w' (Below.refl _ _) rfl (fun _ h => nomatch h)
      · intro vs w' hbe hd K hK
        have hm0 : True := trivial
        simp only [puts, dstAt, List.getElem?_cons_zero, List.getElem?_cons_succ, Option.bind_some, Option.getD_some, Act.put, List.length_cons, List.length_nil, Nat.reduceAdd, List.setIfInBounds_toArray, List.set_cons_zero, List.set_cons_succ, true_and] at hK ⊢
        simp [Oper.wp, execOp, Oper.upon, go_sem, Act.eval, Act.put, true_and]
        exact hK _ [] w' (Below.refl _ _) rfl (fun _ h => nomatch h)
      · intro vs w' hbe hd K hK
        have hm0 : True := trivial
        have d0 := (hd 0 (by rfl)).choose_spec
        have d1 := (hd 1 (by rfl)).choose_spec
        have e0 : vs 0 = _ := d0
        have e1 : vs 1 = _ := d1
        simp only [puts, dstAt, List.getElem?_cons_zero, List.getElem?_cons_succ, Option.bind_some, Option.getD_some, Act.put, List.length_cons, List.length_nil, Nat.reduceAdd, List.setIfInBounds_toArray, List.set_cons_zero, List.set_cons_succ, e0, e1] at hK ⊢
        simp [Oper.wp, execOp, Oper.upon, go_sem, Act.eval, Act.put, e0, e1]
        refine (HF1.out w' hbe).mono ?_
        rintro e w4 ⟨b, dd, rfl, h1, h2, h3, h4⟩
        have hrr := show pkR (.agg #[.int .i64 (n : Int), .slice ao es.length cap]) es n s t 2 (.slice (some ⟨b, 0, none⟩) n n) [] vs w4 from ⟨b, dd, rfl, h1, h4⟩
        have hgg := show Below w'.heap.size w' w4 ∧ ∀ k ∈ ([] : List Nat), w'.heap.size ≤ k ∧ k < w4.heap.size from ⟨h2, fun _ h => nomatch h⟩
        dsimp only
        exact hK _ [] w4 hgg.1 hrr hgg.2
      · intro vs w' hbe hd K hK
        have hm0 : True := trivial
        have q0 := cell_later hbe c0
        have q1 := cell_later hbe c1
        simp only [puts, dstAt, List.getElem?_cons_zero, List.getElem?_cons_succ, Option.bind_some, Option.getD_some, Act.put, List.length_cons, List.length_nil, Nat.reduceAdd, List.setIfInBounds_toArray, List.set_cons_zero, List.set_cons_succ, q0, q1] at hK ⊢
        simp [Oper.wp, execOp, Oper.upon, go_sem, Act.eval, Act.put, q0, q1]
        exact hK _ [] w' (Below.refl _ _) rfl (fun _ h => nomatch h)
      · intro vs w' hbe hd K hK
        have hm0 : True := trivial
        simp only [puts, dstAt, List.getElem?_cons_zero, List.getElem?_cons_succ, Option.bind_some, Option.getD_some, Act.put, List.length_cons, List.length_nil, Nat.reduceAdd, List.setIfInBounds_toArray, List.set_cons_zero, List.set_cons_succ, true_and] at hK ⊢
        simp [Oper.wp, execOp, Oper.upon, go_sem, Act.eval, Act.put, true_and]
        exact hK _ [] w' (Below.refl _ _) rfl (fun _ h => nomatch h)
      · intro vs w' hbe hd K hK
        have hm0 : True := trivial
        have d3 := (hd 3 (by rfl)).choose_spec
        have d4 := (hd 4 (by rfl)).choose_spec
        have e3 : vs 3 = _ := d3
        have e4 : vs 4 = _ := d4
        simp only [puts, dstAt, List.getElem?_cons_zero, List.getElem?_cons_succ, Option.bind_some, Option.getD_some, Act.put, List.length_cons, List.length_nil, Nat.reduceAdd, List.setIfInBounds_toArray, List.set_cons_zero, List.set_cons_succ, e3, e4] at hK ⊢
        simp [Oper.wp, execOp, Oper.upon, go_sem, Act.eval, Act.put, e3, e4]
        refine (HF2.out w' hbe).mono ?_
        rintro e w4 ⟨b, dd, rfl, h1, h2, h3, h4⟩
        have hrr := show pkR (.agg #[.int .i64 (n : Int), .slice ao es.length cap]) es n s t 5 (.slice (some ⟨b, 0, none⟩) n n) [] vs w4 from ⟨b, dd, rfl, h1, h4⟩
        have hgg := show Below w'.heap.size w' w4 ∧ ∀ k ∈ ([] : List Nat), w'.heap.size ≤ k ∧ k < w4.heap.size from ⟨h2, fun _ h => nomatch h⟩
        dsimp only
        exact hK _ [] w4 hgg.1 hrr hgg.2
      · intro vs w' hbe hd K hK
        have hm0 : True := trivial
        simp only [puts, dstAt, List.getElem?_cons_zero, List.getElem?_cons_succ, Option.bind_some, Option.getD_some, Act.put, List.length_cons, List.length_nil, Nat.reduceAdd, List.setIfInBounds_toArray, List.set_cons_zero, List.set_cons_succ, true_and] at hK ⊢
        simp [Oper.wp, execOp, Oper.upon, go_sem, Act.eval, Act.put, true_and]
        exact hK _ [] w' (Below.refl _ _) rfl (fun _ h => nomatch h)
      · intro vs w' hbe hd K hK
        have hm0 : True := trivial
        simp only [puts, dstAt, List.getElem?_cons_zero, List.getElem?_cons_succ, Option.bind_some, Option.getD_some, Act.put, List.length_cons, List.length_nil, Nat.reduceAdd, List.setIfInBounds_toArray, List.set_cons_zero, List.set_cons_succ, true_and] at hK ⊢
        simp [Oper.wp, execOp, Oper.upon, go_sem, Act.eval, Act.put, true_and]
        exact hK _ [] w' (Below.refl _ _) rfl (fun _ h => nomatch h)
    case refine_4 =>
      intro vs gs w' hb1 hR hG hN
      simp only [puts, dstAt, List.getElem?_cons_zero, List.getElem?_cons_succ, Option.bind_some, Option.getD_some, Act.put, List.length_cons, List.length_nil, Nat.reduceAdd, List.setIfInBounds_toArray, List.set_cons_zero, List.set_cons_succ]
      refine hK2 _ _ ?_
      go_meet
      obtain ⟨b1, d1, a1, a2, a3⟩ := hR 2 (by decide)
      obtain ⟨b2, d2, a4, a5, a6⟩ := hR 5 (by decide)
      exact ⟨b1, b2, d1, d2, (show vs 6 = _ from (hR 6 (by decide) : vs 6 = vs 2).trans a1), (show vs 7 = _ from (hR 7 (by decide) : vs 7 = vs 5).trans a4), a2, a5, a3, a6, hb1⟩
  case rest =>
    obtain ⟨b1, b2, d1, d2, rfl, rfl, h1, h2, h3, h4, h5⟩ := hcut
    have HC1 := Lib.hid h1
    have HC2 := Lib.hid h2
    have HI1 := Lib.hid h3
    have HI2 := Lib.hid h4
    have HBc := Lib.hid h5
    have hl1 := h3.1
    have hl2 := h4.1
    have HXT := Lib.hid (HDT.out _ (HA1.out d1 h3 (t : Int) ⟨ht0, ht1⟩))
    clear h1 h2 h3 h4 h5 HF1 HF2
    go_wp2
    go_loopg [12, 13] n (fun gg v12 v13 wr => ∃ (k : Nat) (row : List Int), k ≤ n ∧ n - k ≤ gg ∧ v13 = .int .i64 k ∧ Aside (wr.ownsRow wc.heap.size 3 1 v12 row.length (row.map encI)) ∧ Aside (MeetRow (arcG es) (rk ro) s t d k row) ∧ Aside (Below wc.heap.size wc wr))
    case atStart => exact ⟨0, [], Nat.zero_le _, by omega, rfl, World.ownsRow_nil _ _ _ _, .zero, Below.refl _ _⟩
    case round =>
      obtain ⟨k, row, hk, hgg, rfl, HR, HM, HBk⟩ := hrel
      have HBr := Lib.hid (HBc.out.st HBk.out)
      have p0 := cell_later HBr.out c0
      have p1 := cell_later HBr.out c1
      have m0 := row_at (HC1.out.go HBk.out) hl1 (u := t) (by omega)
      rw [HXT.out] at m0
      by_cases hlt : k < n
      · have hlt3 : (k : Int) < (n : Int) := by omega
        have hk0 : (0 : Int) ≤ (k : Int) := by omega
        have m1 := row_at (HC1.out.go HBk.out) hl1 hlt
        have m2 := row_at (HC2.out.go HBk.out) hl2 hlt
        have hx := HA1.out d1 HI1.out (k : Int) ⟨hk0, hlt3⟩
        have hy := HA2.out d2 HI2.out (k : Int) ⟨hk0, hlt3⟩
        have HMK := Lib.hid (HMI.out (k : Int) _ _ hx hy)
        obtain ⟨B1, hB1, hP1⟩ := HPK.out s k false _ (by omega) hlt hx
        obtain ⟨B2, hB2, hP2⟩ := HPK.out t k true _ (by omega) hlt hy
        have HQ1 := Lib.hid hB1
        have HQ2 := Lib.hid hB2
        have P1 := Lib.hid (fun p => hP1 (ext wr p) (HCR.out _ (HBr.out.st (below_ext wr p))).1 (HCR.out _ (HBr.out.st (below_ext wr p))).2)
        have P2 := Lib.hid (fun p => hP2 (ext wr p) (HCR.out _ (HBr.out.st (below_ext wr p))).1 (HCR.out _ (HBr.out.st (below_ext wr p))).2)
        obtain ⟨x0, x1⟩ := hx.in
        obtain ⟨y0, y1⟩ := hy.in
        have HL := Lib.hid HM.out.len
        generalize gD d1 (k : Int) = x at *
        generalize gD d2 (k : Int) = y at *
        clear hx hy hB1 hB2 hP1 hP2
        have f0 := fun p => cell_ext p p0
        have f1 := fun p => cell_ext p p1
        have f2 := fun p => cell_ext p m0
        have f3 := fun p => cell_ext p m1
        have f4 := fun p => cell_ext p m2
        by_cases hxF : x < 4611686018427387904
        · by_cases hyF : y < 4611686018427387904
          · by_cases hxy : x + y = d
            · have hxy2 : (x + y == d) = true := by simpa using hxy
              cases B1 with
              | false =>
                have HST := Lib.hid (HM.out.no fun h => by have h2 := HQ1.out.2 (HMK.out.1 h).2.2.2.1; cases h2)
                go_wp2
                refine wp_region_ext (by kernel_rfl) (by kernel_rfl) ?_
                repeat (go_big_quiet_step (first | (go_at_call_of 32 (#[.agg #[.int .i64 (n : Int), .slice ao es.length cap], .slice ra R.length rc, .int .i64 (s : Int), .int .i64 (k : Int), .bool false, .int .u64 x] : Array Value); exact Calls.ext_of (P1.out _)) | (go_at_call_of 32 (#[.agg #[.int .i64 (n : Int), .slice ao es.length cap], .slice ra R.length rc, .int .i64 (t : Int), .int .i64 (k : Int), .bool true, .int .u64 y] : Array Value); exact Calls.ext_of (P2.out _))))
                refine wpQuiet_nil ?_
                rintro _ ⟨ps, rfl⟩
                have HBs := Lib.hid (below_ext wr ps)
                generalize ext wr ps = ws at HBs ⊢
                clear f0 f1 f2 f3 f4
                go_wp2
                go_roundg (n - (k + 1))
                case measure => omega
                case rel => exact ⟨k + 1, row, by omega, Nat.le_refl _, by go_num, hp_owns_go HR.out HBs.out, HST.out, HBk.out.st HBs.out⟩
              | true =>
                cases B2 with
                | false =>
                  have HST := Lib.hid (HM.out.no fun h => by have h2 := HQ2.out.2 (HMK.out.1 h).2.2.2.2; cases h2)
                  go_wp2
                  refine wp_region_ext (by kernel_rfl) (by kernel_rfl) ?_
                  repeat (go_big_quiet_step (first | (go_at_call_of 32 (#[.agg #[.int .i64 (n : Int), .slice ao es.length cap], .slice ra R.length rc, .int .i64 (s : Int), .int .i64 (k : Int), .bool false, .int .u64 x] : Array Value); exact Calls.ext_of (P1.out _)) | (go_at_call_of 32 (#[.agg #[.int .i64 (n : Int), .slice ao es.length cap], .slice ra R.length rc, .int .i64 (t : Int), .int .i64 (k : Int), .bool true, .int .u64 y] : Array Value); exact Calls.ext_of (P2.out _))))
                  refine wpQuiet_nil ?_
                  rintro _ ⟨ps, rfl⟩
                  have HBs := Lib.hid (below_ext wr ps)
                  generalize ext wr ps = ws at HBs ⊢
                  clear f0 f1 f2 f3 f4
                  go_wp2
                  go_roundg (n - (k + 1))
                  case measure => omega
                  case rel => exact ⟨k + 1, row, by omega, Nat.le_refl _, by go_num, hp_owns_go HR.out HBs.out, HST.out, HBk.out.st HBs.out⟩
                | true =>
                  have HST := Lib.hid (HM.out.yes (HMK.out.2 ⟨hxF, hyF, hxy, HQ1.out.1 rfl, HQ2.out.1 rfl⟩))
                  go_wp2
                  refine wp_region_ext (by kernel_rfl) (by kernel_rfl) ?_
                  repeat (go_big_quiet_step (first | (go_at_call_of 32 (#[.agg #[.int .i64 (n : Int), .slice ao es.length cap], .slice ra R.length rc, .int .i64 (s : Int), .int .i64 (k : Int), .bool false, .int .u64 x] : Array Value); exact Calls.ext_of (P1.out _)) | (go_at_call_of 32 (#[.agg #[.int .i64 (n : Int), .slice ao es.length cap], .slice ra R.length rc, .int .i64 (t : Int), .int .i64 (k : Int), .bool true, .int .u64 y] : Array Value); exact Calls.ext_of (P2.out _))))
                  refine wpQuiet_nil ?_
                  rintro _ ⟨ps, rfl⟩
                  have HBs := Lib.hid (below_ext wr ps)
                  generalize ext wr ps = ws at HBs ⊢
                  clear f0 f1 f2 f3 f4
                  have HRs := Lib.hid (hp_owns_go HR.out HBs.out)
                  have HB2 := Lib.hid (HBk.out.st HBs.out)
                  go_wp2_with (at_builtin; go_must (refine wpList_app wc.heap.size 3 _ 1 8 elem_int Tryz.underlying25 _ row.length (row.map encI) ⟨ws.heap.size, 0, none⟩ 1 1 [.int .i64 (k : Int)] rfl rfl (World.ownsRow.alloc HRs.out _) (cell_one_new _ _ _) (one_cells rfl) ⟨rfl, by decide, (by have := HL.out; omega), (by have := HL.out; omega), (by have := HB2.out.size; simp; omega)⟩ ?_); intro g6 cap6 w6 hown6 hgrow6 hbl6 hat6 hlt6; (have HO6 := Lib.hid hown6); (have HB6 := Lib.hid ((HB2.out.al _).trans hbl6)); clear hown6 hgrow6 hbl6 hat6 hlt6)
                  go_roundg (n - (k + 1))
                  case measure => omega
                  case rel => exact ⟨k + 1, row ++ [(k : Int)], by omega, Nat.le_refl _, by go_num, by rw [List.length_append, List.map_append]; exact HO6.out, HST.out, HB6.out⟩
            · have hxy2 : (x + y == d) = false := by simpa using hxy
              have HST := Lib.hid (HM.out.no fun h => hxy (HMK.out.1 h).2.2.1)
              go_wp2
              refine wp_region_ext (by kernel_rfl) (by kernel_rfl) ?_
              repeat (go_big_quiet_step (first | (go_at_call_of 32 (#[.agg #[.int .i64 (n : Int), .slice ao es.length cap], .slice ra R.length rc, .int .i64 (s : Int), .int .i64 (k : Int), .bool false, .int .u64 x] : Array Value); exact Calls.ext_of (P1.out _)) | (go_at_call_of 32 (#[.agg #[.int .i64 (n : Int), .slice ao es.length cap], .slice ra R.length rc, .int .i64 (t : Int), .int .i64 (k : Int), .bool true, .int .u64 y] : Array Value); exact Calls.ext_of (P2.out _))))
              refine wpQuiet_nil ?_
              rintro _ ⟨ps, rfl⟩
              have HBs := Lib.hid (below_ext wr ps)
              generalize ext wr ps = ws at HBs ⊢
              clear f0 f1 f2 f3 f4
              go_wp2
              go_roundg (n - (k + 1))
              case measure => omega
              case rel => exact ⟨k + 1, row, by omega, Nat.le_refl _, by go_num, hp_owns_go HR.out HBs.out, HST.out, HBk.out.st HBs.out⟩
          · have HST := Lib.hid (HM.out.no fun h => hyF (HMK.out.1 h).2.1)
            obtain rfl : y = 4611686018427387904 := by omega
            go_wp2
            refine wp_region_ext (by kernel_rfl) (by kernel_rfl) ?_
            repeat (go_big_quiet_step (first | (go_at_call_of 32 (#[.agg #[.int .i64 (n : Int), .slice ao es.length cap], .slice ra R.length rc, .int .i64 (s : Int), .int .i64 (k : Int), .bool false, .int .u64 x] : Array Value); exact Calls.ext_of (P1.out _)) | (go_at_call_of 32 (#[.agg #[.int .i64 (n : Int), .slice ao es.length cap], .slice ra R.length rc, .int .i64 (t : Int), .int .i64 (k : Int), .bool true, .int .u64 y] : Array Value); exact Calls.ext_of (P2.out _))))
            refine wpQuiet_nil ?_
            rintro _ ⟨ps, rfl⟩
            have HBs := Lib.hid (below_ext wr ps)
            generalize ext wr ps = ws at HBs ⊢
            clear f0 f1 f2 f3 f4
            go_wp2
            go_roundg (n - (k + 1))
            case measure => omega
            case rel => exact ⟨k + 1, row, by omega, Nat.le_refl _, by go_num, hp_owns_go HR.out HBs.out, HST.out, HBk.out.st HBs.out⟩
        · have HST := Lib.hid (HM.out.no fun h => hxF (HMK.out.1 h).1)
          obtain rfl : x = 4611686018427387904 := by omega
          go_wp2
          refine wp_region_ext (by kernel_rfl) (by kernel_rfl) ?_
          repeat (go_big_quiet_step (first | (go_at_call_of 32 (#[.agg #[.int .i64 (n : Int), .slice ao es.length cap], .slice ra R.length rc, .int .i64 (s : Int), .int .i64 (k : Int), .bool false, .int .u64 x] : Array Value); exact Calls.ext_of (P1.out _)) | (go_at_call_of 32 (#[.agg #[.int .i64 (n : Int), .slice ao es.length cap], .slice ra R.length rc, .int .i64 (t : Int), .int .i64 (k : Int), .bool true, .int .u64 y] : Array Value); exact Calls.ext_of (P2.out _))))
          refine wpQuiet_nil ?_
          rintro _ ⟨ps, rfl⟩
          have HBs := Lib.hid (below_ext wr ps)
          generalize ext wr ps = ws at HBs ⊢
          clear f0 f1 f2 f3 f4
          go_wp2
          go_roundg (n - (k + 1))
          case measure => omega
          case rel => exact ⟨k + 1, row, by omega, Nat.le_refl _, by go_num, hp_owns_go HR.out HBs.out, HST.out, HBk.out.st HBs.out⟩
      · obtain rfl : n = k := by omega
        have f2 := fun p => cell_ext p m0
        obtain ⟨a9, k9, rfl, hce⟩ := Cel.of_owns HR.out
        have HCE := Lib.hid hce
        clear hce
        go_wp2
        refine wp_region_ext (by kernel_rfl) (by kernel_rfl) ?_
        repeat (go_big_quiet_step (fail))
        refine wpQuiet_nil ?_
        rintro _ ⟨ps, rfl⟩
        have HBs := Lib.hid (below_ext wr ps)
        generalize ext wr ps = ws at HBs ⊢
        go_wp2
        refine bodyPost_ret (v := .tuple #[.slice a9 row.length k9, .int .u64 d]) (by simp [results, Tryz.results22, go_sem]; try rfl) rfl ?_
        exact ⟨a9, k9, row, rfl, HCE.out.go HBs.out, HB.out.st (HBr.out.st HBs.out), HM.out⟩
end Go.Proofs.YtkdomobedfhhgaaGreat
end
