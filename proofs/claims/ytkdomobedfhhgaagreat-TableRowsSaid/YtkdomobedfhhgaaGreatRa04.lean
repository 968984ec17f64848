/-
  Walk of package table: right. And the reference's Nodes.
  Walks: one row behind another (slices.Grow, slices.Concat of two).
  A map from numbers to rows of entries, as it lies in memory (table's buckets): what a reading and a writing give.
  The search's reference in plain Lean: round by round over all edges; what it is, and what it says of peaks.
-/
import Derived.Test.YtkdomobedfhhgaaGreatProg
import Derived.Test.YtkdomobedfhhgaaGreatRa03
import Derived.Test.YtkdomobedfhhgaaGreatQb36
import Derived.Deep.Cut
import Derived.Test.YtkdomobedfhhgaaGreatQb22
import Derived.Lib.AppendZeros
import Derived.Laws.OwnMore
import Derived.Test.YtkdomobedfhhgaaGreatQb13
import Derived.Test.YtkdomobedfhhgaaGreatQb12
import Derived.Test.YtkdomobedfhhgaaGreatQb04
import Derived.Test.YtkdomobedfhhgaaGreatQb30
set_option linter.unusedVariables false
set_option linter.unusedSimpArgs false
set_option linter.unnecessarySimpa false
section
namespace Go.Proofs.YtkdomobedfhhgaaGreat
open Go Go.Proofs Go.RowKit Go.Shelf Go.Proofs.YtkdomobedfhhgaaGreat.Hp Go.Proofs.YtkdomobedfhhgaaGreat.Ch

set_option maxHeartbeats 400000 in
theorem IndexFunc_int (g : Nat) (cb : Array Value) (p : Int → Bool) (ao : Option Addr) (cap : Nat) (l : List Int) (w : World) (hen : Enters Tryz.prog g)
    (hp : PredOn Tryz.prog g cb encI p l w) (hl : l.length ≤ 9223372036854775807) (hc : Cel w ao (l.map encI)) :
    Calls Tryz.prog 167 #[.slice ao l.length cap, .func (.func g) #[] cb] w fun e w' => e = .returned (.int .i64 (idxI p l)) ∧ Below w.heap.size w w' := by
  have HP := Lib.hid hp
  have HC := Lib.hid hc
  clear hp hc
  unfold Enters at hen
  go_enter Tryz.func167, Tryz.ntmps167
  go_wp2
  go_loopg [8] l.length (fun g i wr => ∃ k : Nat, k ≤ l.length ∧ l.length - k ≤ g ∧ i = .int .i64 k ∧ Aside (Below w.heap.size w wr) ∧ Aside (∀ j (h : j < l.length), j < k → p l[j] = false))
  case atStart => exact ⟨0, Nat.zero_le _, by omega, rfl, Below.refl _ _, fun j _ h => absurd h (Nat.not_lt_zero _)⟩
  case round =>
    obtain ⟨k, hk, hg, rfl, HB, HA⟩ := hrel
    by_cases hlt : k < l.length
    · obtain ⟨b, o, hao, hcell⟩ := (HC.out.below HB.out (Nat.le_refl _)).at hlt
      have HQ := Lib.hid (HP.out wr l[k] HB.out (List.getElem_mem hlt))
      have HN := Lib.hid (fun h : p l[k] = true => idxI_hit p l k hlt h (fun j h1 h2 => HA.out j h1 h2))
      have HM := Lib.hid (fun h : p l[k] = false => (fun j (h1 : j < l.length) (h2 : j < k + 1) => (by
        by_cases e : j = k
        · subst e; exact h
        · exact HA.out j h1 (by omega) : p l[j] = false)))
      generalize hx : l[k] = x at *
      clear hx
      subst hao
      cases hq : p x with
      | true =>
        have HN2 := Lib.hid (HN.out hq)
        have HQ2 := Lib.hid (hq ▸ HQ.out)
        clear hq
        go_wp2_with (go_at_fn g; refine HQ2.out.mono ?_; rintro e w1 ⟨rfl, hb1⟩)
        go_ret
        exact ⟨by rw [HN2.out]; rfl, HB.out.trans (hb1.mono (by have := HB.out.size; omega))⟩
      | false =>
        have HN2 := Lib.hid (HM.out hq)
        have HQ2 := Lib.hid (hq ▸ HQ.out)
        clear hq
        go_wp2_with (go_at_fn g; refine HQ2.out.mono ?_; rintro e w1 ⟨rfl, hb1⟩)
        go_roundg (l.length - (k + 1))
        case measure => omega
        case rel => exact ⟨k + 1, by omega, by omega, by go_num, HB.out.trans (hb1.mono (by have := HB.out.size; omega)), HN2.out⟩
    · obtain rfl : k = l.length := by omega
      have HN := Lib.hid (idxI_miss p l (fun j h => HA.out j h h))
      go_wp2
      go_ret
      exact ⟨by rw [HN.out]; rfl, HB.out⟩

theorem ContainsFunc_int (g : Nat) (cb : Array Value) (p : Int → Bool) (ao : Option Addr) (cap : Nat) (l : List Int) (w : World) (hen : Enters Tryz.prog g)
    (hp : PredOn Tryz.prog g cb encI p l w) (hl : l.length ≤ 9223372036854775807) (hc : Cel w ao (l.map encI)) :
    Calls Tryz.prog 129 #[.slice ao l.length cap, .func (.func g) #[] cb] w fun e w' => e = .returned (.bool (l.any p)) ∧ Below w.heap.size w w' := by
  have HC := Lib.hid (IndexFunc_int g cb p ao cap l w hen hp hl hc)
  have HI := Lib.hid (idxI_any p l)
  clear hp hc hen
  generalize idxI p l = r at *
  go_enter Tryz.func129, Tryz.ntmps129
  go_wp2_with (go_at_call 167; refine HC.out.mono ?_; rintro e w1 ⟨rfl, hb1⟩)
  go_ret
  exact ⟨by rw [← HI.out]; rfl, hb1⟩

/-- is none of them a node -/
def outB (n : Nat) (v : Int) : Bool := decide (v < 0) || decide ((n : Int) ≤ v)
theorem outB_no {n : Nat} {l : List Int} : (l.any (outB n)) = false ↔ ∀ v ∈ l, nodeN n v := by
  rw [List.any_eq_false]
  unfold outB nodeN
  constructor
  · intro h v hv
    have := h v hv
    simp at this
    omega
  · intro h v hv
    have := h v hv
    simp
    omega

theorem tright1_any (hb n : Nat) (es : List EdgeD) (R : List Int) (S : List SC) (O I : List (List Int)) (B : Nat) (v : Int) (w : World) (hh : HierM w hb n es R S O I) (hB : w.cell? ⟨B, 0, none⟩ = some (.pointer (some ⟨hb, 0, none⟩))) :
    Calls Tryz.prog 130 (#[encI v] ++ #[.pointer (some ⟨B, 0, none⟩)]) w fun e w' => e = .returned (.bool (outB n v)) ∧ Below w.heap.size w w' := by
  have HN := Lib.hid (nodes_any hb n es R S O I w hh)
  clear hh
  unfold outB
  by_cases h : v < 0
  · go_enter Tryz.func130, Tryz.ntmps130
    go_wp2_with (go_at_call 76; refine HN.out.mono ?_; rintro e w1 ⟨rfl, e1⟩; subst e1)
    go_ret
    exact ⟨by simp [h], Below.refl _ _⟩
  · go_enter Tryz.func130, Tryz.ntmps130
    go_wp2_with (go_at_call 76; refine HN.out.mono ?_; rintro e w1 ⟨rfl, e1⟩; subst e1)
    go_ret
    exact ⟨by simp; omega, Below.refl _ _⟩

theorem tright_nil (v : Value) (w : World) : Calls Tryz.prog 88 #[.pointer none, v] w fun e w' => e = .returned (.int .i64 1) ∧ Below w.heap.size w w' := by
  go_enter Tryz.func88, Tryz.ntmps88
  go_wp2
  go_ret
  exact ⟨rfl, Below.of_al _ _⟩

set_option maxHeartbeats 1000000 in
theorem tright_any (hb n : Nat) (es : List EdgeD) (R : List Int) (S : List SC) (O I : List (List Int)) (ao : Option Addr) (cap : Nat) (l : List Int) (w : World) (hh : HierM w hb n es R S O I) (hl : l.length ≤ 9223372036854775807) (hc : Cel w ao (l.map encI)) :
    Calls Tryz.prog 88 #[.pointer (some ⟨hb, 0, none⟩), .slice ao l.length cap] w fun e w' => e = .returned (.int .i64 (if l.any (outB n) then 7 else 0)) ∧ Below w.heap.size w w' := by
  obtain ⟨W, hW⟩ : ∃ W, W = w.alloc (Obj.cells #[.pointer (some ⟨hb, 0, none⟩)] 30) := ⟨_, rfl⟩
  have hbw : Below w.heap.size w W := by rw [hW]; exact Below.of_al _ _
  have c0 : W.cell? ⟨w.heap.size, 0, none⟩ = some (.pointer (some ⟨hb, 0, none⟩)) := by rw [hW]; go_simp
  have hw1 : PredOn Tryz.prog 130 #[.pointer (some ⟨w.heap.size, 0, none⟩)] encI (outB n) l W := fun W' x hz _ => tright1_any hb n es R S O I w.heap.size x W' (hh.go (hbw.st hz)) (cell_later hz c0)
  have HX := Lib.hid (ContainsFunc_int 130 #[.pointer (some ⟨w.heap.size, 0, none⟩)] (outB n) ao cap l W (enters_of Tryz.func130 (by kernel_rfl) rfl) hw1 hl (hc.go hbw))
  have HW := Lib.hid hW
  have HB := Lib.hid hbw
  clear hW hbw hw1 hh hc
  generalize l.any (outB n) = r at *
  go_enter Tryz.func88, Tryz.ntmps88
  go_upto_region 1 with (fail)
  rw [← HW.out]
  cases r with
  | true =>
    go_wp2_with (go_at_call 129; refine HX.out.mono ?_; rintro e w1 ⟨rfl, hb1⟩; (have HB1 := Lib.hid hb1); clear hb1)
    go_ret
    exact ⟨rfl, HB.out.st HB1.out⟩
  | false =>
    go_wp2_with (go_at_call 129; refine HX.out.mono ?_; rintro e w1 ⟨rfl, hb1⟩; (have HB1 := Lib.hid hb1); clear hb1)
    go_ret
    exact ⟨rfl, HB.out.st HB1.out⟩

end Go.Proofs.YtkdomobedfhhgaaGreat
end

section
namespace Go.Proofs.YtkdomobedfhhgaaGreat
open Go Go.Proofs Go.RowKit Go.Shelf Go.Proofs.YtkdomobedfhhgaaGreat.Hp Go.Proofs.YtkdomobedfhhgaaGreat.Ch

set_option maxHeartbeats 1000000 in
theorem Grow_any (n : Nat) (w : World) (hn : n ≤ 1099511627776) :
    Calls Tryz.prog 131 #[.slice none 0 0, .int .i64 n] w fun e w' => ∃ ao cap, e = .returned (.slice ao 0 cap) ∧ w'.ownsRow w.heap.size 3 1 (.slice ao 0 cap) 0 [] ∧ Below w.heap.size w w' := by
  by_cases h0 : n = 0
  · subst h0
    go_enter Tryz.func131, Tryz.ntmps131
    go_wp2
    go_ret
    exact ⟨none, 0, rfl, ⟨rfl, .inl ⟨rfl, rfl⟩⟩, Below.refl _ _⟩
  · have hE := elem_int
    obtain ⟨hE, hz1, hz2⟩ := hE
    obtain ⟨i, hi, hz, hsz, hby⟩ := info_parts hE
    have hrz := Lib.hid (fun ty => Lib.run_append_nil_zeros w 25 3 ty 3 i _ .i64 .i64 Tryz.underlying25 Tryz.underlying3 hi hz n (by omega) (by omega) (by omega) (by rw [hby]; omega))
    have hGn : n ≤ grownCap w n 0 3 := grownCap_ge w _ _ _
    have hG63 : grownCap w n 0 3 ≤ maxLen := grownCap_le_maxLen w n 0 3 (by unfold maxLen; omega)
    generalize grownCap w n 0 3 = G at *
    obtain ⟨W, hW⟩ : ∃ W, W = w.drew.alloc (.cells (Builtin.zeroCells (Value.int .i64 0).cells n ++ Builtin.zeroCells (Value.int .i64 0).cells (G - n)) 3) := ⟨_, rfl⟩
    rw [← hW] at hrz
    have HO : Aside (W.ownsRow w.heap.size 3 1 (.slice (some ⟨w.heap.size, 0, none⟩) 0 G) 0 []) := by
      refine ⟨rfl, .inr ⟨w.heap.size, G, Builtin.zeroCells (Value.int .i64 0).cells n ++ Builtin.zeroCells (Value.int .i64 0).cells (G - n), rfl, Nat.le_refl _, ?_, Nat.zero_le _, hG63, ?_, ?_⟩⟩
      · rw [hW]; exact (MapKept.heap_alloc w.drew _).1
      · simp [size_zeroCells, Value.cells]; omega
      · simp
    have HB : Aside (Below w.heap.size w W) := by rw [hW]; exact Below.al (Below.of_dr w 1) _
    clear hW hE hz1 hz2 hi hz hsz hby
    have hG9 : (0 : Int) ≤ (G : Int) := by omega
    have hc1 : ((n : Int) > 0) = True := by simp; omega
    have hc2 : ((n : Int) < 0) = False := by simp
    unfold maxLen at hG63
    go_enter Tryz.func131, Tryz.ntmps131
    go_wp2_with (at_builtin; refine Lib.wpList_append_run _ rfl _ _ _ _ rfl _ _ rfl rfl _ _ (hrz.out _) ?_)
    go_ret
    exact ⟨_, G, rfl, HO.out, HB.out⟩

set_option maxRecDepth 100000 in
set_option maxHeartbeats 1000000 in
/-- slices.Concat of two rows -/
theorem Concat2_any (bk : Nat) (ao bo : Option Addr) (ca cb cq : Nat) (la lb : List Int) (w : World) (hla : la.length ≤ 1048576) (hlb : lb.length ≤ 1048576)
    (h0 : w.cell? ⟨bk, 0, none⟩ = some (.slice ao la.length ca)) (h1 : w.cell? ⟨bk, 1, none⟩ = some (.slice bo lb.length cb)) (ha : Cel w ao (la.map encI)) (hb : Cel w bo (lb.map encI)) :
    Calls Tryz.prog 89 #[.slice (some ⟨bk, 0, none⟩) 2 cq] w fun e w' => ∃ ao' cap', e = .returned (.slice ao' (la ++ lb).length cap') ∧ Cel w' ao' ((la ++ lb).map encI) ∧ Below w.heap.size w w' ∧ ∀ x, ao' = some x → w.heap.size ≤ x.block := by
  have HA := Lib.hid ha
  have HB := Lib.hid hb
  have H0 := Lib.hid h0
  have H1 := Lib.hid h1
  clear ha hb
  have HG := Lib.hid (fun W => Grow_any (la.length + lb.length) W (by omega))
  go_enter Tryz.func89, Tryz.ntmps89
  go_wp2
  refine wp_loop_rounds 3 ?_
  rw [rounds_succ]
  go_wp2
  rw [rounds_succ]
  go_wp2
  rw [rounds_succ]
  go_wp2_with fail
  refine (HG.out _).mono ?_
  rintro e w1 ⟨a1, c1, rfl, ho1, hb1⟩
  have m0 := cell_later hb1 h0
  have m1 := cell_later hb1 h1
  have HO1 := Lib.hid ho1
  have HB1 := Lib.hid hb1
  clear ho1 hb1 h0 h1
  go_wp2
  refine wp_loop_rounds 3 ?_
  rw [rounds_succ]
  obtain ⟨a2, c2, w2, hr2, ho2, hb2⟩ := run_appAll (P := Tryz.prog) 25 25 w.heap.size 3 _ 8 elem_int Tryz.underlying25 a1 0 c1 [] HO1.out ao la.length ca (la.map encI) (HA.out.go HB1.out) (fun u hu => by obtain ⟨x, _, rfl⟩ := List.mem_map.1 hu; rfl) (by refine ⟨by simp, by omega, by omega, HB1.out.size⟩)
  simp only [Nat.zero_add, List.nil_append] at hr2 ho2
  have HB2 := Lib.hid (HB1.out.trans hb2)
  have n0 := cell_later HB2.out H0.out
  have n1 := cell_later HB2.out H1.out
  obtain ⟨a3, c3, w3, hr3, ho3, hb3⟩ := run_appAll (P := Tryz.prog) 25 25 w.heap.size 3 _ 8 elem_int Tryz.underlying25 a2 la.length c2 (la.map encI) ho2 bo lb.length cb (lb.map encI) (HB.out.go HB2.out) (fun u hu => by obtain ⟨x, _, rfl⟩ := List.mem_map.1 hu; rfl) (by refine ⟨by simp, by omega, by omega, HB2.out.size⟩)
  have HR2 := Lib.hid hr2
  have HR3 := Lib.hid hr3
  have HO3 := Lib.hid ho3
  have HB3 := Lib.hid (HB2.out.trans hb3)
  clear hr2 ho2 hb2 hr3 ho3 hb3
  go_wp2_with (at_builtin; refine Lib.wpList_append_run _ rfl _ _ _ _ rfl _ _ rfl rfl _ _ HR2.out ?_)
  rw [rounds_succ]
  go_wp2_with (at_builtin; refine Lib.wpList_append_run _ rfl _ _ _ _ rfl _ _ rfl rfl _ _ HR3.out ?_)
  rw [rounds_succ]
  go_wp2
  go_ret
  obtain ⟨ao3, cap3, e3, h3⟩ := Cel.of_owns HO3.out
  cases e3
  refine ⟨a3, c3, ?_, by simpa using h3, HB3.out, ?_⟩
  · simp
  · rintro x rfl
    rcases HO3.out.2 with ⟨e, _⟩ | ⟨g, cap', cur, e, hb, _⟩
    · cases e
    · cases e
      exact hb
end Go.Proofs.YtkdomobedfhhgaaGreat
end

section
namespace Go.Proofs.YtkdomobedfhhgaaGreat
open Go Go.Proofs Go.RowKit Go.Shelf Go.Proofs.YtkdomobedfhhgaaGreat.Hp Go.Proofs.YtkdomobedfhhgaaGreat.Ch

theorem mv_under : Tryz.prog.underlying 154 = some (.map 3 155) := Tryz.underlying154
/-- an element reads as itself -/
def heldE (v : Value) : Option (DataW Value × List MemPlace) := some (.held v, [])
theorem heldE_inv {v : Value} {x : Value} {z : List MemPlace} (h : heldE v = some (.held x, z)) : v = x := by
  unfold heldE at h
  cases h
  rfl
abbrev nilS : Value := .slice none 0 0
/-- a map of rows -/
def MapV (w : World) (b n : Nat) (F : Int → Value) : Prop :=
  ∃ D : DataW Value, w.ownsMap Tryz.prog 3 heldE b n D ∧ ∀ u, In6 u → D.atKey (i64K u) (.held nilS) = .held (F u)

def updB (f : Int → Value) (u : Int) (x : Value) : Int → Value := fun v => if v = u then x else f v

variable {w w' : World} {b n : Nat} {F : Int → Value}
theorem MapV.lt (h : MapV w b n F) : b < w.heap.size := let ⟨_, k, _⟩ := h; k.lt
theorem MapV.mono (h : MapV w b n F) {n' : Nat} (hn : n ≤ n') : MapV w b n' F := let ⟨D, k, r⟩ := h; ⟨D, k.mono hn, r⟩
theorem MapV.eq (h : MapV w b n F) (he : w'.heap[b]? = w.heap[b]?) : MapV w' b n F := by
  obtain ⟨D, ⟨es, clock, hb, r⟩, q⟩ := h
  exact ⟨D, ⟨es, clock, he.trans hb, r⟩, q⟩
theorem MapV.go (h : MapV w b n F) (hb : Below w.heap.size w w') : MapV w' b n F := h.eq (hb.block b h.lt)
theorem MapV.new (w : World) : MapV (w.alloc (.map #[] 0)) w.heap.size 0 (fun _ => nilS) :=
  ⟨.map [], World.ownsMap_made w _ _ _, fun u _ => rfl⟩
/-- a reading -/
theorem MapV.look (h : MapV w b n F) {u : Int} (hu : In6 u) : (Instr.lookup 154 (.map (some b)) (.int .i64 u) false).run Tryz.prog w = .ok (F u) w := by
  obtain ⟨D, k, q⟩ := h
  obtain ⟨v, ps, h1, h2⟩ := k.lookup mp_keyed mv_under (z := nilS) (by kernel_rfl) (zd := .held nilS) (zp := []) rfl (key := .int .i64 u) (kl := i64K u) (Maps.keyOf_int_mk Tryz.underlying3 (in6_wf hu))
  rw [q u hu] at h2
  rw [h1, heldE_inv h2]
/-- a writing -/
theorem MapV.put (h : MapV w b n F) (hn : n < 1000000000000000000) {u : Int} (x : Value) (hu : In6 u) :
    ∃ w', (Instr.mapUpdate 154 (.map (some b)) (.int .i64 u) x).run Tryz.prog w = .ok () w' ∧ MapV w' b (n + 1) (updB F u x) ∧ OffX (· = b) w w' := by
  obtain ⟨D, k, q⟩ := h
  obtain ⟨w', h1, h2, h3⟩ := k.store (H := Value) mp_keyed mv_under (by unfold maxLen; omega) (key := .int .i64 u) (val := x) (kl := i64K u) (d := .held x) (ps := []) (Maps.keyOf_int_mk Tryz.underlying3 (in6_wf hu)) rfl
  have hg := h3.grown
  refine ⟨w', h1, ⟨_, h2, fun v hv => ?_⟩, ⟨hg.os, hg.tape, hg.output, hg.size, fun j hj hjb => hg.block j hj (fun e => hjb (Option.some.inj e))⟩⟩
  unfold updB
  by_cases e : v = u
  · subst e
    rw [if_pos rfl, Maps.atKey_put_same k.isMap (k := i64K v) trivial]
  · rw [if_neg e, Maps.atKey_put_other (fun h => e (by cases h; rfl))]
    exact q v hv

/-- the cells of a bucket -/
def flatE (l : List (Nat × Int)) : List Value := l.flatMap fun x => [.int .i64 (x.1 : Int), .int .u64 x.2]
theorem flatE_app (l m : List (Nat × Int)) : flatE (l ++ m) = flatE l ++ flatE m := by unfold flatE; rw [List.flatMap_append]
theorem flatE_get {l : List (Nat × Int)} {i : Nat} (hi : i < l.length) : (flatE l)[2 * i]? = some (.int .i64 (l[i].1 : Int)) ∧ (flatE l)[2 * i + 1]? = some (.int .u64 l[i].2) := by
  induction l generalizing i with
  | nil => simp at hi
  | cons a r ih =>
    have e : flatE (a :: r) = [.int .i64 (a.1 : Int), .int .u64 a.2] ++ flatE r := rfl
    cases i with
    | zero => rw [e]; simp
    | succ k =>
      have := ih (i := k) (by simpa using hi)
      rw [e, show 2 * (k + 1) = 2 * k + 2 from by omega]
      simpa using this

/-- the buckets: a row for each node, each one in its own block -/
structure BuW (W : World) (mb base n : Nat) (F : Int → Value) (B : Int → List (Nat × Int)) : Prop where
  map : MapV W mb n F
  row : ∀ u, In6 u → W.ownsRow base 157 2 (F u) (B u).length (flatE (B u))
  far : ∀ u, In6 u → (F u).ownBlock ≠ some mb
  two : ∀ u v, In6 u → In6 v → u ≠ v → ∀ k, (F u).ownBlock = some k → (F v).ownBlock ≠ some k
theorem owns_same {W W' : World} {base n : Nat} {E : TypeId} {s : Nat} {v : Value} {xs : List Value} (h : W.ownsRow base E s v n xs) (hk : ∀ k, v.ownBlock = some k → k < W.heap.size → W'.heap[k]? = W.heap[k]?) : W'.ownsRow base E s v n xs := by
  obtain ⟨h1, h2⟩ := h
  refine ⟨h1, ?_⟩
  rcases h2 with h2 | ⟨g, cap, cur, e, hb, hg, r⟩
  · exact .inl h2
  · subst e
    exact .inr ⟨g, cap, cur, rfl, hb, (hk g rfl (Array.getElem?_eq_some_iff.1 hg).1).trans hg, r⟩
theorem BuW.go {W W' : World} {mb base n : Nat} {F : Int → Value} {B : Int → List (Nat × Int)} (h : BuW W mb base n F B) (hb : Below W.heap.size W W') : BuW W' mb base n F B :=
  ⟨h.map.go hb, fun u hu => owns_same (h.row u hu) (fun k _ hk => hb.block k hk), h.far, h.two⟩
theorem BuW.new (w : World) (base : Nat) : BuW (w.alloc (.map #[] 0)) w.heap.size base 0 (fun _ => nilS) (fun _ => []) :=
  ⟨MapV.new w, fun u _ => World.ownsRow_nil _ _ _ _, (fun _ _ h => by cases h), (fun _ _ _ _ _ _ h => by cases h)⟩
/-- a row has got one entry more, and goes back -/
theorem BuW.put {W W1 W2 : World} {mb base n : Nat} {F : Int → Value} {B : Int → List (Nat × Int)} {u : Int} {v' : Value} {x : Nat × Int} (h : BuW W mb base n F B) (hu : In6 u)
    (hg : W.grownBy W1 (F u).ownBlock) (hr : W1.ownsRow base 157 2 v' ((B u).length + 1) (flatE (B u) ++ [.int .i64 (x.1 : Int), .int .u64 x.2]))
    (hv : ∀ k, v'.ownBlock = some k → (F u).ownBlock = some k ∨ W.heap.size ≤ k) (hm : MapV W2 mb (n + 1) (updB F u v')) (ho : OffX (· = mb) W1 W2) : BuW W2 mb base (n + 1) (updB F u v') (fun y => if y = u then B u ++ [x] else B y) := by
  have hlt := h.map.lt
  have hv1 : ∀ k, v'.ownBlock = some k → k ≠ mb := by
    intro k hk e
    subst e
    rcases hv _ hk with h1 | h1
    · exact h.far u hu h1
    · omega
  refine ⟨hm, fun y hy => ?_, fun y hy => ?_, fun y z hy hz hyz k hk => ?_⟩
  · unfold updB
    by_cases e : y = u
    · subst e
      simp only [if_true]
      rw [List.length_append, flatE_app]
      exact owns_same hr (fun k hk hlt1 => ho.block k hlt1 (hv1 k hk))
    · simp only [if_neg e]
      refine owns_same (h.row y hy) (fun k hk hlt1 => ?_)
      have h1 := hg.block k hlt1 (fun e2 => h.two y u hy hu e k hk e2.symm)
      rw [← h1]
      refine ho.block k (Nat.lt_of_lt_of_le hlt1 hg.size) (fun e2 => ?_)
      subst e2
      exact h.far y hy hk
  · unfold updB
    by_cases e : y = u
    · simp only [if_pos e]
      exact fun h1 => hv1 _ h1 rfl
    · simp only [if_neg e]
      exact h.far y hy
  · have hnew : ∀ y, In6 y → y ≠ u → ∀ k, (F y).ownBlock = some k → v'.ownBlock ≠ some k := by
      intro y hy e k hk h1
      rcases hv k h1 with h2 | h2
      · exact h.two y u hy hu e k hk h2
      · have := (h.row y hy).lt k hk
        omega
    unfold updB at hk ⊢
    by_cases e : y = u
    · subst e
      rw [if_pos rfl] at hk
      rw [if_neg (Ne.symm hyz)]
      exact fun h2 => hnew z hz (Ne.symm hyz) k h2 hk
    · rw [if_neg e] at hk
      by_cases e2 : z = u
      · subst e2
        rw [if_pos rfl]
        exact hnew y hy e k hk
      · rw [if_neg e2]
        exact h.two y z hy hz hyz k hk

end Go.Proofs.YtkdomobedfhhgaaGreat
end

section
namespace Go.Proofs.YtkdomobedfhhgaaGreat
open Go.Proofs.YtkdomobedfhhgaaGreat.Ch
/-- an edge as an arc -/
def arcOf (back : Bool) (e : EdgeD) : Arc := ⟨(endsC back e).1, (endsC back e).2, e.w⟩
def arcsC (es : List EdgeD) (back : Bool) (no : List Int) : List Arc := (es.filter (countB no)).map (arcOf back)
def relaxE (back : Bool) (no : List Int) (p : List Int × Bool) (e : EdgeD) : List Int × Bool := if countB no e then relaxC p (arcOf back e) else p
theorem fold_relaxE (back : Bool) (no : List Int) : ∀ (es : List EdgeD) (p : List Int × Bool), es.foldl (relaxE back no) p = (arcsC es back no).foldl relaxC p
  | [], _ => rfl
  | e :: es, p => by
    rw [List.foldl_cons, fold_relaxE back no es]
    unfold relaxE arcsC
    cases h : countB no e <;> simp [List.filter_cons, h]
theorem round_relaxE (es : List EdgeD) (back : Bool) (no d : List Int) : es.foldl (relaxE back no) (d, false) = roundC d (arcsC es back no) := fold_relaxE back no es _
theorem relaxE_take {es : List EdgeD} {back : Bool} {no d : List Int} {k : Nat} (h : k < es.length) : (es.take (k + 1)).foldl (relaxE back no) (d, false) = relaxE back no ((es.take k).foldl (relaxE back no) (d, false)) es[k] := by
  rw [List.take_succ_eq_append_getElem h, List.foldl_append]
  rfl
theorem countB_iff {no : List Int} {e : EdgeD} : countB no e = true ↔ e.f ∉ no ∧ e.t ∉ no := by
  unfold countB
  simp
theorem rel_arcs {es : List EdgeD} {back : Bool} {no : List Int} {u v w : Int} : rel (arcsC es back no) u v w ↔ relB back (arcG es) u v w ∧ u ∉ no ∧ v ∉ no := by
  unfold rel arcsC relB arcG
  simp only [List.mem_map, List.mem_filter, countB_iff]
  cases back
  · simp only [Bool.false_eq_true, if_false]
    constructor
    · rintro ⟨e, ⟨h1, h2, h3⟩, h4⟩
      cases h4
      exact ⟨⟨e, h1, rfl, rfl, rfl⟩, h2, h3⟩
    · rintro ⟨⟨e, h1, rfl, rfl, rfl⟩, h2, h3⟩
      exact ⟨e, ⟨h1, h2, h3⟩, rfl⟩
  · simp only [if_true, Turn]
    constructor
    · rintro ⟨e, ⟨h1, h2, h3⟩, h4⟩
      cases h4
      exact ⟨⟨e, h1, rfl, rfl, rfl⟩, h3, h2⟩
    · rintro ⟨⟨e, h1, rfl, rfl, rfl⟩, h2, h3⟩
      exact ⟨e, ⟨h1, h3, h2⟩, rfl⟩
/-- how far all nodes are, without some nodes -/
def AllIs (es : List EdgeD) (n : Nat) (s : Int) (back : Bool) (no d : List Int) : Prop :=
  d.length = n ∧ (∀ v, node n v → gD d v = FAR ∨ (0 ≤ gD d v ∧ gD d v ≤ 1152921504606846976)) ∧ (s ∈ no → ∀ v, node n v → gD d v = FAR) ∧ (s ∉ no → Exact (arcsC es back no) s n d)
/-- the state of the rounds: k are gone by -/
structure Rds (L : List Arc) (s : Int) (n k : Nat) (B : Int) (d : List Int) (c : Bool) : Prop where
  so : Sofar L s n (k * B) d
  left : left L s n d + k ≤ n ∨ left L s n d = 0
  ex : c = false → Exact L s n d
theorem Rds.start (L : List Arc) {s : Int} {n : Nat} (B : Int) (hs : node n s) : Rds L s n 0 B ((List.replicate n FAR).set s.toNat 0) true :=
  ⟨by rw [show ((0 : Nat) : Int) * B = 0 by simp]; exact Sofar.begin L hs, .inl (by have := left_le L s n ((List.replicate n FAR).set s.toNat 0); omega), fun h => by cases h⟩
theorem Rds.go {L : List Arc} {s : Int} {n k : Nat} {W B : Int} {d : List Int} {c : Bool} (hg : Ch.Good L n W) (hW : 0 ≤ W) (hs : node n s) (hB : (L.length : Int) * W ≤ B) (hk : k ≤ 4096) (hm : 4097 * B + W < FAR) (h : Rds L s n k B d c) : Rds L s n (k + 1) B (roundC d L).1 (roundC d L).2 := by
  have h0 : (0 : Int) ≤ (L.length : Int) * W := Int.mul_nonneg (by omega) hW
  have h1 : (k : Int) * B ≤ 4096 * B := Int.mul_le_mul_of_nonneg_right (by omega) (by omega)
  obtain ⟨a1, a2, a3⟩ := Sofar.round hg hW hs h.so (by omega)
  have e : ((k + 1 : Nat) : Int) * B = k * B + B := by push_cast; rw [Int.add_mul]; omega
  refine ⟨a1.mono (by rw [e]; omega), ?_, a3⟩
  rcases a2 with a2 | a2
  · rcases h.left with h2 | h2 <;> omega
  · exact .inr a2
theorem Rds.done {L : List Arc} {s : Int} {n k : Nat} {W B : Int} {d : List Int} {c : Bool} (hg : Ch.Good L n W) (h : Rds L s n k B d c) (he : c = false ∨ n < k) : Exact L s n d := by
  rcases he with he | he
  · exact h.ex he
  · exact h.so.zero hg (by rcases h.left with h2 | h2 <;> omega)
theorem Exact.is {es : List EdgeD} {n : Nat} {s : Int} {back : Bool} {no d : List Int} {k : Nat} {B : Int} (h : Exact (arcsC es back no) s n d) (hso : Sofar (arcsC es back no) s n (k * B) d) {W : Int} (hg : Ch.Good (arcsC es back no) n W) (hs : s ∉ no) (hb : (k : Int) * B ≤ 1152921504606846976) : AllIs es n s back no d :=
  ⟨h.len, fun v hv => (hso.way v hv).imp id fun k => ⟨k.1.nonneg hg.hA, by have := k.2; omega⟩, fun k => absurd k hs, fun _ => h⟩
theorem AllIs.out {es : List EdgeD} {n : Nat} {s : Int} {back : Bool} {no : List Int} (hs : s ∈ no) : AllIs es n s back no (List.replicate n FAR) := by
  have h : ∀ v, node n v → gD (List.replicate n FAR) v = FAR := by
    intro v hv
    unfold gD
    rw [List.getD_eq_getElem?_getD, List.getElem?_replicate]
    split <;> rfl
  exact ⟨by simp, fun v hv => .inl (h v hv), fun _ => h, fun k => absurd hs k⟩
theorem arcs_good {es : List EdgeD} {n : Nat} {back : Bool} {no : List Int} (hA : ∀ u v w, arcG es u v w → nodeN n u ∧ nodeN n v ∧ 1 ≤ w ∧ w ≤ 4294967296) : Ch.Good (arcsC es back no) n 4294967296 := by
  have key : ∀ e ∈ arcsC es back no, node n e.u ∧ node n e.v ∧ 1 ≤ e.w ∧ e.w ≤ 4294967296 := by
    intro e he
    have h := (rel_arcs.1 (show rel (arcsC es back no) e.u e.v e.w from he)).1
    unfold relB at h
    cases back
    · exact hA _ _ _ h
    · have := hA _ _ _ (show arcG es e.v e.u e.w from h)
      exact ⟨this.2.1, this.1, this.2.2⟩
  exact ⟨fun e he => ⟨(key e he).1, (key e he).2.1⟩, fun e he => ⟨(key e he).2.2.1, (key e he).2.2.2⟩⟩
theorem arcs_len {es : List EdgeD} {back : Bool} {no : List Int} : (arcsC es back no).length ≤ es.length := by
  unfold arcsC
  rw [List.length_map]
  exact List.length_filter_le _ _
theorem part_bd {es : List EdgeD} {n : Nat} {s : Int} {back : Bool} {no d : List Int} {m W : Int} (hg : Ch.Good (arcsC es back no) n W) (hs : node n s) (hW : 0 ≤ W) (h : Sofar (arcsC es back no) s n m d) (hm0 : 0 ≤ m) (hm : m + es.length * W < FAR) (j : Nat) :
    ((es.take j).foldl (relaxE back no) (d, false)).1.length = n ∧ ∀ v, node n v → 0 ≤ gD ((es.take j).foldl (relaxE back no) (d, false)).1 v ∧ gD ((es.take j).foldl (relaxE back no) (d, false)).1 v ≤ 4611686018427387904 := by
  rw [fold_relaxE]
  have hsub : ∀ e ∈ arcsC (es.take j) back no, e ∈ arcsC es back no := by
    intro e he
    unfold arcsC at he ⊢
    obtain ⟨x, hx, rfl⟩ := List.mem_map.1 he
    obtain ⟨h1, h2⟩ := List.mem_filter.1 hx
    exact List.mem_map.2 ⟨x, List.mem_filter.2 ⟨List.mem_of_mem_take h1, h2⟩, rfl⟩
  obtain ⟨a, -, -, -⟩ := Sofar.part hg hs hW (arcsC (es.take j) back no) d m false hsub h
  have hl : (arcsC (es.take j) back no).length ≤ es.length := Nat.le_trans arcs_len (by rw [List.length_take]; omega)
  have h2 : ((arcsC (es.take j) back no).length : Int) * W ≤ (es.length : Int) * W := Int.mul_le_mul_of_nonneg_right (by omega) hW
  have hF : FAR = 4611686018427387904 := rfl
  refine ⟨a.len, fun v hv => ?_⟩
  rcases a.way v hv with k | ⟨k, k2⟩
  · rw [k, hF]; omega
  · exact ⟨k.nonneg hg.hA, by omega⟩
/-- how far all are: of each node a number, or none -/
def FarV (A : Int → Int → Int → Prop) (s v x : Int) : Prop := (Dist A s v x ∧ 0 ≤ x ∧ x ≤ 1152921504606846976) ∨ (x = FAR ∧ ∀ e, ¬ Way0 A Any s v e)
theorem FarV.uniq {A : Int → Int → Int → Prop} {s v x y : Int} (h : FarV A s v x) (k : FarV A s v y) : x = y := by
  rcases h with ⟨h, _⟩ | ⟨rfl, h⟩ <;> rcases k with ⟨k, _⟩ | ⟨rfl, k⟩
  · exact h.uniq k
  · exact absurd h.1 (k _)
  · exact absurd k.1 (h _)
  · rfl
theorem FarV.lt {A : Int → Int → Int → Prop} {s v x : Int} (h : FarV A s v x) (hx : x < FAR) : Dist A s v x ∧ 0 ≤ x ∧ x ≤ 1152921504606846976 := by
  rcases h with h | ⟨rfl, _⟩
  · exact h
  · exact absurd hx (by decide)
theorem FarV.ge {A : Int → Int → Int → Prop} {s v x : Int} (h : FarV A s v x) (hx : ¬ x < FAR) : x = FAR ∧ ∀ e, ¬ Way0 A Any s v e := by
  rcases h with ⟨_, _, h⟩ | h
  · unfold FAR at hx; omega
  · exact h
theorem FarV.in {A : Int → Int → Int → Prop} {s v x : Int} (h : FarV A s v x) : 0 ≤ x ∧ x ≤ 4611686018427387904 := by
  rcases h with ⟨_, h⟩ | ⟨rfl, _⟩
  · omega
  · unfold FAR; omega
theorem rel_none (es : List EdgeD) (back : Bool) : rel (arcsC es back []) = relB back (arcG es) := by
  funext u v w
  exact propext (rel_arcs.trans ⟨fun h => h.1, fun h => ⟨h, by simp, by simp⟩⟩)
theorem AllIs.farX {es : List EdgeD} {n : Nat} {s : Int} {back : Bool} {no d : List Int} (hA : ∀ u v w, rel (arcsC es back no) u v w → 1 ≤ w) (h : AllIs es n s back no d) (hs : s ∉ no) {v : Int} (hv : node n v) : FarV (rel (arcsC es back no)) s v (gD d v) := by
  obtain ⟨h1, h2, h3, h4⟩ := h
  have hE := h4 hs
  by_cases hd : ∃ e, Dist (rel (arcsC es back no)) s v e
  · obtain ⟨e, he⟩ := hd
    refine .inl ⟨by rw [hE.dist v e hv he]; exact he, ?_⟩
    rcases h2 v hv with k | k
    · exact absurd k (hE.fin v e hv he)
    · exact k
  · exact .inr ⟨hE.none v hv fun e he => hd ⟨e, he⟩, fun e he => hd (dist_some hA he)⟩
theorem AllIs.far {es : List EdgeD} {n : Nat} {s : Int} {back : Bool} {d : List Int} (hA : ∀ u v w, relB back (arcG es) u v w → 1 ≤ w) (h : AllIs es n s back [] d) {v : Int} (hv : node n v) : FarV (relB back (arcG es)) s v (gD d v) := by
  have := h.farX (fun u v w k => hA u v w (rel_arcs.1 k).1) (by simp) hv
  rwa [rel_none] at this
end Go.Proofs.YtkdomobedfhhgaaGreat
end
