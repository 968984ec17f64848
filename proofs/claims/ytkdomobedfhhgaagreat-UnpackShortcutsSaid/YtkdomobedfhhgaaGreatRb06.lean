/-
  Walks over the reference of searches: all weights, how far all nodes are.
  Walk over the reference of searches: how far all nodes are.
  Walk over the reference of upward: Far, Peak.
  Walk of package query: an oracle.
-/
import Derived.Test.YtkdomobedfhhgaaGreatProg
import Derived.Test.YtkdomobedfhhgaaGreatRb02
import Derived.Test.YtkdomobedfhhgaaGreatQb23
import Derived.Deep.Cut
import Derived.Test.YtkdomobedfhhgaaGreatQb36
import Derived.Maps.Views
set_option linter.unusedVariables false
set_option linter.unusedSimpArgs false
set_option linter.unnecessarySimpa false
section
namespace Go.Proofs.YtkdomobedfhhgaaGreat
open Go Go.Proofs Go.RowKit Go.Shelf Go.Proofs.YtkdomobedfhhgaaGreat.Ch

end Go.Proofs.YtkdomobedfhhgaaGreat
end

section
namespace Go.Proofs.YtkdomobedfhhgaaGreat
open Go Go.Proofs Go.RowKit Go.Shelf Go.Proofs.YtkdomobedfhhgaaGreat.Ch

section
variable {W wr wr' : World} {D n : Nat} {aw : Option Addr} {es : List EdgeD} {d : List Int}
end
end Go.Proofs.YtkdomobedfhhgaaGreat
end

section
namespace Go.Proofs.YtkdomobedfhhgaaGreat
open Go Go.Proofs Go.RowKit Go.Shelf Go.Proofs.YtkdomobedfhhgaaGreat.Ch

end Go.Proofs.YtkdomobedfhhgaaGreat
end

section
namespace Go.Proofs.YtkdomobedfhhgaaGreat
open Go Go.Proofs Go.RowKit Go.Shelf Go.Proofs.YtkdomobedfhhgaaGreat.Hp Go.Proofs.YtkdomobedfhhgaaGreat.Ch

/-- a map of weights, and how many it has -/
def MapC (w : World) (b n : Nat) (f : Int → Option Int) : Prop :=
  ∃ D : DataW Unit, w.ownsMap Tryz.prog 3 (plainElem Tryz.prog 34) b n D ∧ (∀ u, In6 u → Maps.has D (i64K u) = (f u).isSome ∧ D.atKey (i64K u) (.lit (.int .u64 0)) = .lit (.int .u64 ((f u).getD 0))) ∧ Maps.size D = n
section
variable {w w' : World} {b n : Nat} {f : Int → Option Int}
theorem MapC.toW (h : MapC w b n f) : MapW w b n f := let ⟨D, k, q, _⟩ := h; ⟨D, k, q⟩
theorem MapC.eq (h : MapC w b n f) (he : w'.heap[b]? = w.heap[b]?) : MapC w' b n f := by
  obtain ⟨D, ⟨es, clock, hb, r⟩, q⟩ := h
  exact ⟨D, ⟨es, clock, he.trans hb, r⟩, q⟩
theorem MapC.go (h : MapC w b n f) (hb : Below w.heap.size w w') : MapC w' b n f := h.eq (hb.block b h.toW.lt)
theorem MapC.off {X : Nat → Prop} (h : MapC w b n f) (ho : OffX X w w') (hn : ¬ X b) : MapC w' b n f := h.eq (ho.block b h.toW.lt hn)
theorem MapC.new (w : World) : MapC (w.alloc (.map #[] 0)) w.heap.size 0 (fun _ => none) :=
  ⟨.map [], World.ownsMap_made w _ _ _, fun u _ => ⟨rfl, rfl⟩, rfl⟩
theorem MapC.len (h : MapC w b n f) (ty : TypeId) : (Builtin.len_ #[125] ty #[.map (some b)]).run Tryz.prog w = .ok (.int .i64 (n : Int)) w := by
  obtain ⟨D, k, q, hs⟩ := h
  have := k.len mp_under ty
  rw [hs] at this
  exact this
/-- a writing at what is not there yet -/
theorem MapC.put (h : MapC w b n f) (hn : n < 1000000000000000000) {u x : Int} (hu : In6 u) (hx : 0 ≤ x ∧ x ≤ 18446744073709551615) (hf : f u = none) :
    ∃ w', (Instr.mapUpdate 125 (.map (some b)) (.int .i64 u) (.int .u64 x)).run Tryz.prog w = .ok () w' ∧ MapC w' b (n + 1) (updM f u x) ∧ OffX (· = b) w w' := by
  obtain ⟨D, k, q, hs⟩ := h
  obtain ⟨w', h1, h2, h3⟩ := k.store (H := Unit) mp_keyed mp_under (by unfold maxLen; omega) (key := .int .i64 u) (val := .int .u64 x) (kl := i64K u) (d := .lit (.int .u64 x)) (ps := []) (Maps.keyOf_int_mk Tryz.underlying3 (in6_wf hu)) (plainElem_int Tryz.underlying34 (u64_wf hx))
  have hg := h3.grown
  refine ⟨w', h1, ⟨_, h2, fun v hv => ?_, ?_⟩, ⟨hg.os, hg.tape, hg.output, hg.size, fun j hj hjb => hg.block j hj (fun e => hjb (Option.some.inj e))⟩⟩
  · obtain ⟨q1, q2⟩ := q v hv
    unfold updM
    by_cases e : v = u
    · subst e
      rw [if_pos rfl, Maps.has_put_same k.isMap (k := i64K v) trivial, Maps.atKey_put_same k.isMap (k := i64K v) trivial]
      exact ⟨rfl, rfl⟩
    · rw [if_neg e, Maps.has_put_other (fun h => e (by cases h; rfl)), Maps.atKey_put_other (fun h => e (by cases h; rfl))]
      exact ⟨q1, q2⟩
  · rw [Maps.size_put (k.tidy mp_keyed), (q u hu).1, hf, hs]
    rfl
end
/-- an oracle in memory: to a node t, of which some were asked -/
structure OrW (w : World) (ob hb sb kb n t : Nat) (A : Int → Int → Int → Prop) (lb : List LB) (asked : List Int) : Prop where
  c0 : w.cell? ⟨ob, 0, none⟩ = some (.pointer (some ⟨hb, 0, none⟩))
  c1 : w.cell? ⟨ob, 1, none⟩ = some (.map (some sb))
  c2 : w.cell? ⟨ob, 2, none⟩ = some (.map (some kb))
  sp : MapW w sb lb.length (byF lb)
  kn : ∃ f, MapC w kb asked.length f ∧ (∀ u, (f u).isSome = true ↔ u ∈ asked) ∧ ∀ u x, f u = some x → FarV A u t x
  ne : kb ≠ ob ∧ kb ≠ sb
theorem OrW.go {w w' : World} {ob hb sb kb n t : Nat} {A : Int → Int → Int → Prop} {lb : List LB} {asked : List Int} (h : OrW w ob hb sb kb n t A lb asked) (hz : Below w.heap.size w w') : OrW w' ob hb sb kb n t A lb asked := by
  obtain ⟨f, k1, k2, k3⟩ := h.kn
  exact ⟨cell_later hz h.c0, cell_later hz h.c1, cell_later hz h.c2, h.sp.go hz, ⟨f, k1.go hz, k2, k3⟩, h.ne⟩
/-- the space to t -/
def ToSp (es : List EdgeD) (S : List SC) (ro : List Int) (t n : Nat) (lb : List LB) : Prop := Space (relB true (arcG es)) (XN S true) (rk ro) (t : Int) (lb.map labOf) ∧ lb.length ≤ n
theorem near_far {es : List EdgeD} {n : Nat} {R : List Int} {S : List SC} {ro : List Int} {s t : Nat} {la lb : List LB} (hok : HierOK es n R S ro) (hn : n ≤ 12) (hs : s < n) (ht : t < n) (ha : Space (relB false (arcG es)) (XN S false) (rk ro) (s : Int) (la.map labOf)) (hb : Space (relB true (arcG es)) (XN S true) (rk ro) (t : Int) (lb.map labOf)) :
    FarV (arcG es) (s : Int) (t : Int) (nearF (byF lb) la) := by
  have h3 := (nearF_spec (byF lb) la).2.2
  rcases near_dist hok hn hs ht ha hb with ⟨h1, h2⟩ | ⟨h1, h2⟩
  · rcases h2 with ⟨h, _⟩ | ⟨_, _, _, _, h⟩ | ⟨h, _⟩
    · cases h
    · exact .inr ⟨by unfold FAR; omega, h⟩
    · cases h
  · rcases h2 with ⟨_, _, _, h, h4⟩ | ⟨h, _⟩ | ⟨h, _⟩
    · exact .inl ⟨h, h.1.nonneg (hok.hierB false).pos, h4⟩
    · cases h
    · cases h
set_option maxRecDepth 100000 in
set_option maxHeartbeats 2000000 in
theorem qfind_any (ob hb sb kb n t s : Nat) (es : List EdgeD) (R : List Int) (S : List SC) (ro : List Int) (lb : List LB) (asked : List Int) (w : World) (h : OrW w ob hb sb kb n t (arcG es) lb asked) (hh : BH w hb n es R S ro) (hlb : ToSp es S ro t n lb) (hs : s < n) (ht : t < n) :
    Calls Tryz.prog 77 #[.pointer (some ⟨ob, 0, none⟩), .int .i64 (s : Int)] w fun e w' => (∃ x, e = .returned (.int .u64 x) ∧ FarV (arcG es) (s : Int) (t : Int) x) ∧ Below w.heap.size w w' := by
  have c0 := h.c0
  have c1 := h.c1
  have HSP := Lib.hid h.sp
  have HOK := Lib.hid hh.ok
  have HLE := Lib.hid hh.le
  have HSA := Lib.hid (space_any hb n es R S ro s false w hh.mem hh.ok hh.le hs)
  have hpw : lb.Pairwise (fun a b => a.v ≠ b.v) := by
    have h9 := hlb.1.once
    rw [List.pairwise_map] at h9
    exact h9
  have hlbs := labsOK hh.ok hlb.1 ht hh.le
  have HF := Lib.hid (fun (u x : Int) (hy : byF lb u = some x) => show 0 ≤ x ∧ x ≤ 1152921504606846976 by
    obtain ⟨z, hz, _, rfl⟩ := (byF_spec lb hpw _ _).1 hy
    have := hlbs z hz
    exact ⟨by omega, by omega⟩)
  have HLB := Lib.hid hlb
  unfold SpacePost at HSA
  clear h hh hlb hpw hlbs
  go_enter Tryz.func77, Tryz.ntmps77
  go_upto_region 2 with (go_at_call 29; refine HSA.out.mono ?_; rintro e w1 ⟨ao, ca, la, rfl, h1, h2, h3, h4, h5⟩; (have H1 := Lib.hid h2); (have HC := Lib.hid h1); (have HS := Lib.hid (And.intro h3 h4)); (have d1 := cell_later h2 c1); clear h1 h2 h3 h4 h5)
  have hla := labsOK HOK.out HS.out.1 hs HLE.out
  have HL := Lib.hid (least_any la (byF lb) ao ca sb lb.length w1 HC.out (HSP.out.go H1.out) (by have := HS.out.2; have := HLE.out; omega) (fun x hx => ⟨in6_of (hla x hx).1 HLE.out, (hla x hx).2.1, by have := (hla x hx).2.2; omega⟩) HF.out)
  have HN := Lib.hid (near_far HOK.out HLE.out hs ht HS.out.1 HLB.out.1)
  generalize nearF (byF lb) la = x at *
  clear hla
  go_wp2_with (go_at_call 72; refine HL.out.mono ?_; rintro e w2 ⟨rfl, hb2⟩; (have H2 := Lib.hid hb2); clear hb2)
  refine bodyPost_ret (v := .int .u64 x) (by simp [results, Tryz.results77, go_sem]; try rfl) rfl ?_
  exact ⟨⟨x, rfl, HN.out⟩, H1.out.st H2.out⟩
/-- what From gives of a node -/
def FromPost (w : World) (ob hb sb kb n t : Nat) (A : Int → Int → Int → Prop) (lb : List LB) (asked : List Int) (s : Int) (e : Ending) (w' : World) : Prop :=
  ∃ x, FarV A s t x ∧ ((x < 4611686018427387904 ∧ e = .returned (.tuple #[.int .u64 x, .bool true])) ∨ (4611686018427387904 ≤ x ∧ e = .returned (.tuple #[.int .u64 0, .bool false]))) ∧
    OrW w' ob hb sb kb n t A lb (if s ∈ asked then asked else asked ++ [s]) ∧ OffX (· = kb) w w'
theorem offX_below {X : Nat → Prop} {w w1 w2 : World} (hb : Below w.heap.size w w1) (ho : OffX X w1 w2) : OffX X w w2 := (OffX.of_below hb).trans ho
set_option maxRecDepth 100000 in
set_option maxHeartbeats 2000000 in
theorem from_any (ob hb sb kb n t s : Nat) (es : List EdgeD) (R : List Int) (S : List SC) (ro : List Int) (lb : List LB) (asked : List Int) (w : World) (h : OrW w ob hb sb kb n t (arcG es) lb asked) (hh : BH w hb n es R S ro) (hlb : ToSp es S ro t n lb) (hs : s < n) (ht : t < n) (hask : asked.length ≤ 1000000) :
    Calls Tryz.prog 25 #[.pointer (some ⟨ob, 0, none⟩), .int .i64 (s : Int)] w (FromPost w ob hb sb kb n t (arcG es) lb asked s) := by
  have hmf : ∀ (fn : Fn) (first cap : Array Value) (w : World), (Instr.makeFunc fn first cap).run Tryz.prog w = .ok (.func fn first cap) w := fun _ _ _ _ => rfl
  have HFI := Lib.hid (qfind_any ob hb sb kb n t s es R S ro lb asked w h hh hlb hs ht)
  have HN := Lib.hid (nodes_any hb n es R S _ _ w hh.mem)
  have c0 := h.c0
  have c2 := h.c2
  have hn12 := hh.le
  have hs0 : (0 : Int) ≤ (s : Int) := by omega
  have hs1 : (s : Int) < (n : Int) := by omega
  have i6 : In6 (s : Int) := ⟨by omega, by omega⟩
  obtain ⟨f, k1, k2, k3⟩ := h.kn
  have HO := Lib.hid h
  have HK := Lib.hid (And.intro k1 (And.intro k2 k3))
  have lk := k1.toW.look i6
  clear h hh hlb k1 k2 k3
  cases hf : f (s : Int) with
  | some x =>
    have HX := Lib.hid (HK.out.2.2 _ _ hf)
    have HM := Lib.hid (show (s : Int) ∈ asked from (HK.out.2.1 _).1 (by rw [hf]; rfl))
    rw [hf] at lk
    simp only [Option.isSome, Option.getD] at lk
    clear hf i6
    by_cases hx : x < 4611686018427387904
    · have hng : ¬ 4611686018427387904 ≤ x := by omega
      go_enter Tryz.func25, Tryz.ntmps25
      go_wp2_with (go_at_call 76; refine HN.out.mono ?_; rintro e w1 ⟨rfl, rfl⟩)
      refine bodyPost_ret (v := .tuple #[.int .u64 x, .bool true]) (by simp [results, Tryz.results25, go_sem]; try rfl) rfl ?_
      unfold FromPost
      exact ⟨x, HX.out, .inl ⟨hx, rfl⟩, by rw [if_pos HM.out]; exact HO.out, .refl _ _⟩
    · have hge : 4611686018427387904 ≤ x := by omega
      go_enter Tryz.func25, Tryz.ntmps25
      go_wp2_with (go_at_call 76; refine HN.out.mono ?_; rintro e w1 ⟨rfl, rfl⟩)
      refine bodyPost_ret (v := .tuple #[.int .u64 0, .bool false]) (by simp [results, Tryz.results25, go_sem]; try rfl) rfl ?_
      unfold FromPost
      exact ⟨x, HX.out, .inr ⟨hge, rfl⟩, by rw [if_pos HM.out]; exact HO.out, .refl _ _⟩
  | none =>
    have HM := Lib.hid (show (s : Int) ∉ asked from fun k => by have h9 := (HK.out.2.1 _).2 k; rw [hf] at h9; cases h9)
    have HF := Lib.hid hf
    have I6 := Lib.hid i6
    rw [hf] at lk
    simp only [Option.isSome, Option.getD] at lk
    clear hf i6
    go_enter Tryz.func25, Tryz.ntmps25
    go_upto_region 7 with (first
      | (go_at_call 76; refine HN.out.mono ?_; rintro e w1 ⟨rfl, rfl⟩)
      | (go_at_call 77; refine HFI.out.mono ?_; rintro e w1 ⟨⟨x, rfl, hx⟩, hb1⟩; (have HX := Lib.hid hx); (have HB1 := Lib.hid hb1); clear hx hb1))
    have d0 := cell_later HB1.out c0
    have d2 := cell_later HB1.out c2
    have hx0 := HX.out.in
    obtain ⟨w2, hup, hm2, ho2⟩ := (HK.out.1.go HB1.out).put (by omega) I6.out (u := (s : Int)) (x := x) ⟨hx0.1, by omega⟩ HF.out
    have HO1 := HO.out.go HB1.out
    have HOR := Lib.hid (show OrW w2 ob hb sb kb n t (arcG es) lb (if (s : Int) ∈ asked then asked else asked ++ [(s : Int)]) from by
      rw [if_neg HM.out]
      refine ⟨ho2.cell HO1.c0 (fun e => HO1.ne.1 e.symm), ho2.cell HO1.c1 (fun e => HO1.ne.1 e.symm), ho2.cell HO1.c2 (fun e => HO1.ne.1 e.symm), HO1.sp.off ho2 (fun e => HO1.ne.2 e.symm), ⟨_, by rw [List.length_append]; exact hm2, ?_, ?_⟩, HO1.ne⟩
      · intro u
        unfold updM
        rw [List.mem_append, List.mem_singleton]
        by_cases e : u = (s : Int)
        · rw [if_pos e]; simp [e]
        · rw [if_neg e]; simp only [e, or_false]; exact HK.out.2.1 u
      · intro u y
        unfold updM
        by_cases e : u = (s : Int)
        · rw [if_pos e]
          intro h
          cases h
          rw [e]
          exact HX.out
        · rw [if_neg e]; exact HK.out.2.2 u y)
    have HOF := Lib.hid (offX_below HB1.out ho2)
    clear hm2 ho2 HO1
    by_cases hx : x < 4611686018427387904
    · have hng : ¬ 4611686018427387904 ≤ x := by omega
      go_wp2
      refine bodyPost_ret (v := .tuple #[.int .u64 x, .bool true]) (by simp [results, Tryz.results25, go_sem]; try rfl) rfl ?_
      unfold FromPost
      exact ⟨x, HX.out, .inl ⟨hx, rfl⟩, HOR.out, HOF.out⟩
    · have hge : 4611686018427387904 ≤ x := by omega
      go_wp2
      refine bodyPost_ret (v := .tuple #[.int .u64 0, .bool false]) (by simp [results, Tryz.results25, go_sem]; try rfl) rfl ?_
      unfold FromPost
      exact ⟨x, HX.out, .inr ⟨hge, rfl⟩, HOR.out, HOF.out⟩
def ToPost (es : List EdgeD) (S : List SC) (ro : List Int) (hb n t : Nat) (w : World) (e : Ending) (w' : World) : Prop :=
  ∃ (ob sb kb : Nat) (lb : List LB), e = .returned (.tuple #[.pointer (some ⟨ob, 0, none⟩), .int .i64 0]) ∧ OrW w' ob hb sb kb n t (arcG es) lb [] ∧ ToSp es S ro t n lb ∧ Below w.heap.size w w' ∧ w.heap.size ≤ kb ∧ kb < w'.heap.size
set_option maxRecDepth 100000 in
set_option maxHeartbeats 2000000 in
theorem to_any (hb n t : Nat) (es : List EdgeD) (R : List Int) (S : List SC) (ro : List Int) (w : World) (h : BH w hb n es R S ro) (ht : t < n) :
    Calls Tryz.prog 24 #[.pointer (some ⟨hb, 0, none⟩), .int .i64 (t : Int)] w (ToPost es S ro hb n t w) := by
  have hmm := @run_makeMap Tryz.prog
  have HSA := Lib.hid (space_any hb n es R S ro t true w h.mem h.ok h.le ht)
  have HOK := Lib.hid h.ok
  have HLE := Lib.hid h.le
  unfold SpacePost at HSA
  unfold ToPost
  clear h
  go_enter Tryz.func24, Tryz.ntmps24
  go_upto_region 4 with (go_at_call 29; refine HSA.out.mono ?_; rintro e w1 ⟨ao, ca, lb, rfl, h1, h2, h3, h4, h5⟩; (have H1 := Lib.hid h2); (have HC := Lib.hid h1); (have HS := Lib.hid (And.intro h3 h4)); clear h1 h2 h3 h4 h5)
  have hlb := labsOK HOK.out HS.out.1 ht HLE.out
  have HBY := Lib.hid (byNode_any lb ao ca w1 HC.out (by have := HS.out.2; have := HLE.out; omega) (fun x hx => ⟨in6_of (hlb x hx).1 HLE.out, (hlb x hx).2.1, by have := (hlb x hx).2.2; omega⟩))
  unfold ByPost at HBY
  clear hlb
  go_wp2_with (go_at_call 73; refine HBY.out.mono ?_; rintro e w2 ⟨b, rfl, m1, m2, m3⟩; (have HM := Lib.hid (And.intro m1 (And.intro m2 m3))); clear m1 m2 m3)
  refine bodyPost_ret (v := .tuple #[.pointer (some ⟨w2.heap.size + 1, 0, none⟩), .int .i64 0]) (by simp [results, Tryz.results24, go_sem]; try rfl) rfl ?_
  obtain ⟨m1, m2, m3⟩ := HM.out
  have hb2 : Below w2.heap.size w2 (w2.alloc (.map #[] 0)) := Below.of_al _ _
  have hsz1 := H1.out.size
  have hsz2 := m3.size
  have hlt := m1.lt
  refine ⟨_, b, w2.heap.size, lb, rfl, ⟨by go_simp, by go_simp, by go_simp, (m1.go hb2).go (Below.of_al _ _), ⟨fun _ => none, (MapC.new w2).go (Below.of_al _ _), by simp, by simp⟩, ⟨by omega, by omega⟩⟩, HS.out, ((H1.out.st m3).al _).al _, by omega, by simp; omega⟩
end Go.Proofs.YtkdomobedfhhgaaGreat
end
