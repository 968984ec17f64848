/-
  Walk of package table: right. And the reference's Nodes.
  Walks: one row behind another (slices.Grow, slices.Concat of two).
  A map from numbers to rows of entries, as it lies in memory (table's buckets): what a reading and a writing give.
  Plain: what lies in table's buckets, what a row tells as it is pulled down, and what it tells at the end.
-/
import Derived.Test.YtkdomobedfhhgaaGreatProg
import Derived.Test.YtkdomobedfhhgaaGreatQd03
import Derived.Test.YtkdomobedfhhgaaGreatQb36
import Derived.Deep.Cut
import Derived.Test.YtkdomobedfhhgaaGreatQb22
import Derived.Lib.AppendZeros
import Derived.Laws.OwnMore
import Derived.Test.YtkdomobedfhhgaaGreatQb13
import Derived.Test.YtkdomobedfhhgaaGreatQb12
import Derived.Test.YtkdomobedfhhgaaGreatQb04
import Derived.Test.YtkdomobedfhhgaaGreatQc01
import Derived.Test.YtkdomobedfhhgaaGreatQb35
set_option linter.unusedVariables false
set_option linter.unusedSimpArgs false
set_option linter.unnecessarySimpa false
section
namespace Go.Proofs.YtkdomobedfhhgaaGreat
open Go Go.Proofs Go.RowKit Go.Shelf Go.Proofs.YtkdomobedfhhgaaGreat.Hp Go.Proofs.YtkdomobedfhhgaaGreat.Ch

set_option maxHeartbeats 400000 in
theorem IndexFunc_int (g : Nat) (cb : Array Value) (p : Int → Bool) (ao : Option Addr) (cap : Nat) (l : List Int) (w : World) (hen : Enters Tryz.prog g)
    (hp : PredOn Tryz.prog g cb encI p l w) (hl : l.length ≤ 9223372036854775807) (hc : Cel w ao (l.map encI)) :
    Calls Tryz.prog 167 #[.slice ao l.length cap, .func (.func g) #[] cb] w fun e w' => e = .returned (.int .i64 (idxI p l)) ∧ Below w.heap.size w w' := by
  have HP := Lib.hid hp
  have HC := Lib.hid hc
  clear hp hc
  unfold Enters at hen
  go_enter Tryz.func167, Tryz.ntmps167
  go_wp2
  go_loopg [8] l.length (fun g i wr => ∃ k : Nat, k ≤ l.length ∧ l.length - k ≤ g ∧ i = .int .i64 k ∧ Aside (Below w.heap.size w wr) ∧ Aside (∀ j (h : j < l.length), j < k → p l[j] = false))
  case atStart => exact ⟨0, Nat.zero_le _, by omega, rfl, Below.refl _ _, fun j _ h => absurd h (Nat.not_lt_zero _)⟩
  case round =>
    obtain ⟨k, hk, hg, rfl, HB, HA⟩ := hrel
    by_cases hlt : k < l.length
    · obtain ⟨b, o, hao, hcell⟩ := (HC.out.below HB.out (Nat.le_refl _)).at hlt
      have HQ := Lib.hid (HP.out wr l[k] HB.out (List.getElem_mem hlt))
      have HN := Lib.hid (fun h : p l[k] = true => idxI_hit p l k hlt h (fun j h1 h2 => HA.out j h1 h2))
      have HM := Lib.hid (fun h : p l[k] = false => (fun j (h1 : j < l.length) (h2 : j < k + 1) => (by
        by_cases e : j = k
        · subst e; exact h
        · exact HA.out j h1 (by omega) : p l[j] = false)))
      generalize hx : l[k] = x at *
      clear hx
      subst hao
      cases hq : p x with
      | true =>
        have HN2 := Lib.hid (HN.out hq)
        have HQ2 := Lib.hid (hq ▸ HQ.out)
        clear hq
        go_wp2_with (go_at_fn g; refine HQ2.out.mono ?_; rintro e w1 ⟨rfl, hb1⟩)
        go_ret
        exact ⟨by rw [HN2.out]; rfl, HB.out.trans (hb1.mono (by have := HB.out.size; omega))⟩
      | false =>
        have HN2 := Lib.hid (HM.out hq)
        have HQ2 := Lib.hid (hq ▸ HQ.out)
        clear hq
        go_wp2_with (go_at_fn g; refine HQ2.out.mono ?_; rintro e w1 ⟨rfl, hb1⟩)
        go_roundg (l.length - (k + 1))
        case measure => omega
        case rel => exact ⟨k + 1, by omega, by omega, by go_num, HB.out.trans (hb1.mono (by have := HB.out.size; omega)), HN2.out⟩
    · obtain rfl : k = l.length := by omega
      have HN := Lib.hid (idxI_miss p l (fun j h => HA.out j h h))
      go_wp2
      go_ret
      exact ⟨by rw [HN.out]; rfl, HB.out⟩

theorem ContainsFunc_int (g : Nat) (cb : Array Value) (p : Int → Bool) (ao : Option Addr) (cap : Nat) (l : List Int) (w : World) (hen : Enters Tryz.prog g)
    (hp : PredOn Tryz.prog g cb encI p l w) (hl : l.length ≤ 9223372036854775807) (hc : Cel w ao (l.map encI)) :
    Calls Tryz.prog 129 #[.slice ao l.length cap, .func (.func g) #[] cb] w fun e w' => e = .returned (.bool (l.any p)) ∧ Below w.heap.size w w' := by
  have HC := Lib.hid (IndexFunc_int g cb p ao cap l w hen hp hl hc)
  have HI := Lib.hid (idxI_any p l)
  clear hp hc hen
  generalize idxI p l = r at *
  go_enter Tryz.func129, Tryz.ntmps129
  go_wp2_with (go_at_call 167; refine HC.out.mono ?_; rintro e w1 ⟨rfl, hb1⟩)
  go_ret
  exact ⟨by rw [← HI.out]; rfl, hb1⟩

/-- is none of them a node -/
def outB (n : Nat) (v : Int) : Bool := decide (v < 0) || decide ((n : Int) ≤ v)
theorem outB_no {n : Nat} {l : List Int} : (l.any (outB n)) = false ↔ ∀ v ∈ l, nodeN n v := by
  rw [List.any_eq_false]
  unfold outB nodeN
  constructor
  · intro h v hv
    have := h v hv
    simp at this
    omega
  · intro h v hv
    have := h v hv
    simp
    omega

theorem tright1_any (hb n : Nat) (es : List EdgeD) (R : List Int) (S : List SC) (O I : List (List Int)) (B : Nat) (v : Int) (w : World) (hh : HierM w hb n es R S O I) (hB : w.cell? ⟨B, 0, none⟩ = some (.pointer (some ⟨hb, 0, none⟩))) :
    Calls Tryz.prog 130 (#[encI v] ++ #[.pointer (some ⟨B, 0, none⟩)]) w fun e w' => e = .returned (.bool (outB n v)) ∧ Below w.heap.size w w' := by
  have HN := Lib.hid (nodes_any hb n es R S O I w hh)
  clear hh
  unfold outB
  by_cases h : v < 0
  · go_enter Tryz.func130, Tryz.ntmps130
    go_wp2_with (go_at_call 76; refine HN.out.mono ?_; rintro e w1 ⟨rfl, e1⟩; subst e1)
    go_ret
    exact ⟨by simp [h], Below.refl _ _⟩
  · go_enter Tryz.func130, Tryz.ntmps130
    go_wp2_with (go_at_call 76; refine HN.out.mono ?_; rintro e w1 ⟨rfl, e1⟩; subst e1)
    go_ret
    exact ⟨by simp; omega, Below.refl _ _⟩

theorem tright_nil (v : Value) (w : World) : Calls Tryz.prog 88 #[.pointer none, v] w fun e w' => e = .returned (.int .i64 1) ∧ Below w.heap.size w w' := by
  go_enter Tryz.func88, Tryz.ntmps88
  go_wp2
  go_ret
  exact ⟨rfl, Below.of_al _ _⟩

set_option maxHeartbeats 1000000 in
theorem tright_any (hb n : Nat) (es : List EdgeD) (R : List Int) (S : List SC) (O I : List (List Int)) (ao : Option Addr) (cap : Nat) (l : List Int) (w : World) (hh : HierM w hb n es R S O I) (hl : l.length ≤ 9223372036854775807) (hc : Cel w ao (l.map encI)) :
    Calls Tryz.prog 88 #[.pointer (some ⟨hb, 0, none⟩), .slice ao l.length cap] w fun e w' => e = .returned (.int .i64 (if l.any (outB n) then 7 else 0)) ∧ Below w.heap.size w w' := by
  obtain ⟨W, hW⟩ : ∃ W, W = w.alloc (Obj.cells #[.pointer (some ⟨hb, 0, none⟩)] 30) := ⟨_, rfl⟩
  have hbw : Below w.heap.size w W := by rw [hW]; exact Below.of_al _ _
  have c0 : W.cell? ⟨w.heap.size, 0, none⟩ = some (.pointer (some ⟨hb, 0, none⟩)) := by rw [hW]; go_simp
  have hw1 : PredOn Tryz.prog 130 #[.pointer (some ⟨w.heap.size, 0, none⟩)] encI (outB n) l W := fun W' x hz _ => tright1_any hb n es R S O I w.heap.size x W' (hh.go (hbw.st hz)) (cell_later hz c0)
  have HX := Lib.hid (ContainsFunc_int 130 #[.pointer (some ⟨w.heap.size, 0, none⟩)] (outB n) ao cap l W (enters_of Tryz.func130 (by kernel_rfl) rfl) hw1 hl (hc.go hbw))
  have HW := Lib.hid hW
  have HB := Lib.hid hbw
  clear hW hbw hw1 hh hc
  generalize l.any (outB n) = r at *
  go_enter Tryz.func88, Tryz.ntmps88
  go_upto_region 1 with (fail)
  rw [← HW.out]
  cases r with
  | true =>
    go_wp2_with (go_at_call 129; refine HX.out.mono ?_; rintro e w1 ⟨rfl, hb1⟩; (have HB1 := Lib.hid hb1); clear hb1)
    go_ret
    exact ⟨rfl, HB.out.st HB1.out⟩
  | false =>
    go_wp2_with (go_at_call 129; refine HX.out.mono ?_; rintro e w1 ⟨rfl, hb1⟩; (have HB1 := Lib.hid hb1); clear hb1)
    go_ret
    exact ⟨rfl, HB.out.st HB1.out⟩

end Go.Proofs.YtkdomobedfhhgaaGreat
end

section
namespace Go.Proofs.YtkdomobedfhhgaaGreat
open Go Go.Proofs Go.RowKit Go.Shelf Go.Proofs.YtkdomobedfhhgaaGreat.Hp Go.Proofs.YtkdomobedfhhgaaGreat.Ch

set_option maxHeartbeats 1000000 in
theorem Grow_any (n : Nat) (w : World) (hn : n ≤ 1099511627776) :
    Calls Tryz.prog 131 #[.slice none 0 0, .int .i64 n] w fun e w' => ∃ ao cap, e = .returned (.slice ao 0 cap) ∧ w'.ownsRow w.heap.size 3 1 (.slice ao 0 cap) 0 [] ∧ Below w.heap.size w w' := by
  by_cases h0 : n = 0
  · subst h0
    go_enter Tryz.func131, Tryz.ntmps131
    go_wp2
    go_ret
    exact ⟨none, 0, rfl, ⟨rfl, .inl ⟨rfl, rfl⟩⟩, Below.refl _ _⟩
  · have hE := elem_int
    obtain ⟨hE, hz1, hz2⟩ := hE
    obtain ⟨i, hi, hz, hsz, hby⟩ := info_parts hE
    have hrz := Lib.hid (fun ty => Lib.run_append_nil_zeros w 25 3 ty 3 i _ .i64 .i64 Tryz.underlying25 Tryz.underlying3 hi hz n (by omega) (by omega) (by omega) (by rw [hby]; omega))
    have hGn : n ≤ grownCap w n 0 3 := grownCap_ge w _ _ _
    have hG63 : grownCap w n 0 3 ≤ maxLen := grownCap_le_maxLen w n 0 3 (by unfold maxLen; omega)
    generalize grownCap w n 0 3 = G at *
    obtain ⟨W, hW⟩ : ∃ W, W = w.drew.alloc (.cells (Builtin.zeroCells (Value.int .i64 0).cells n ++ Builtin.zeroCells (Value.int .i64 0).cells (G - n)) 3) := ⟨_, rfl⟩
    rw [← hW] at hrz
    have HO : Aside (W.ownsRow w.heap.size 3 1 (.slice (some ⟨w.heap.size, 0, none⟩) 0 G) 0 []) := by
      refine ⟨rfl, .inr ⟨w.heap.size, G, Builtin.zeroCells (Value.int .i64 0).cells n ++ Builtin.zeroCells (Value.int .i64 0).cells (G - n), rfl, Nat.le_refl _, ?_, Nat.zero_le _, hG63, ?_, ?_⟩⟩
      · rw [hW]; exact (MapKept.heap_alloc w.drew _).1
      · simp [size_zeroCells, Value.cells]; omega
      · simp
    have HB : Aside (Below w.heap.size w W) := by rw [hW]; exact Below.al (Below.of_dr w 1) _
    clear hW hE hz1 hz2 hi hz hsz hby
    have hG9 : (0 : Int) ≤ (G : Int) := by omega
    have hc1 : ((n : Int) > 0) = True := by simp; omega
    have hc2 : ((n : Int) < 0) = False := by simp
    unfold maxLen at hG63
    go_enter Tryz.func131, Tryz.ntmps131
    go_wp2_with (at_builtin; refine Lib.wpList_append_run _ rfl _ _ _ _ rfl _ _ rfl rfl _ _ (hrz.out _) ?_)
    go_ret
    exact ⟨_, G, rfl, HO.out, HB.out⟩

set_option maxRecDepth 100000 in
set_option maxHeartbeats 1000000 in
/-- slices.Concat of two rows -/
theorem Concat2_any (bk : Nat) (ao bo : Option Addr) (ca cb cq : Nat) (la lb : List Int) (w : World) (hla : la.length ≤ 1048576) (hlb : lb.length ≤ 1048576)
    (h0 : w.cell? ⟨bk, 0, none⟩ = some (.slice ao la.length ca)) (h1 : w.cell? ⟨bk, 1, none⟩ = some (.slice bo lb.length cb)) (ha : Cel w ao (la.map encI)) (hb : Cel w bo (lb.map encI)) :
    Calls Tryz.prog 89 #[.slice (some ⟨bk, 0, none⟩) 2 cq] w fun e w' => ∃ ao' cap', e = .returned (.slice ao' (la ++ lb).length cap') ∧ Cel w' ao' ((la ++ lb).map encI) ∧ Below w.heap.size w w' ∧ ∀ x, ao' = some x → w.heap.size ≤ x.block := by
  have HA := Lib.hid ha
  have HB := Lib.hid hb
  have H0 := Lib.hid h0
  have H1 := Lib.hid h1
  clear ha hb
  have HG := Lib.hid (fun W => Grow_any (la.length + lb.length) W (by omega))
  go_enter Tryz.func89, Tryz.ntmps89
  go_wp2
  refine wp_loop_rounds 3 ?_
  rw [rounds_succ]
  go_wp2
  rw [rounds_succ]
  go_wp2
  rw [rounds_succ]
  go_wp2_with fail
  refine (HG.out _).mono ?_
  rintro e w1 ⟨a1, c1, rfl, ho1, hb1⟩
  have m0 := cell_later hb1 h0
  have m1 := cell_later hb1 h1
  have HO1 := Lib.hid ho1
  have HB1 := Lib.hid hb1
  clear ho1 hb1 h0 h1
  go_wp2
  refine wp_loop_rounds 3 ?_
  rw [rounds_succ]
  obtain ⟨a2, c2, w2, hr2, ho2, hb2⟩ := run_appAll (P := Tryz.prog) 25 25 w.heap.size 3 _ 8 elem_int Tryz.underlying25 a1 0 c1 [] HO1.out ao la.length ca (la.map encI) (HA.out.go HB1.out) (fun u hu => by obtain ⟨x, _, rfl⟩ := List.mem_map.1 hu; rfl) (by refine ⟨by simp, by omega, by omega, HB1.out.size⟩)
  simp only [Nat.zero_add, List.nil_append] at hr2 ho2
  have HB2 := Lib.hid (HB1.out.trans hb2)
  have n0 := cell_later HB2.out H0.out
  have n1 := cell_later HB2.out H1.out
  obtain ⟨a3, c3, w3, hr3, ho3, hb3⟩ := run_appAll (P := Tryz.prog) 25 25 w.heap.size 3 _ 8 elem_int Tryz.underlying25 a2 la.length c2 (la.map encI) ho2 bo lb.length cb (lb.map encI) (HB.out.go HB2.out) (fun u hu => by obtain ⟨x, _, rfl⟩ := List.mem_map.1 hu; rfl) (by refine ⟨by simp, by omega, by omega, HB2.out.size⟩)
  have HR2 := Lib.hid hr2
  have HR3 := Lib.hid hr3
  have HO3 := Lib.hid ho3
  have HB3 := Lib.hid (HB2.out.trans hb3)
  clear hr2 ho2 hb2 hr3 ho3 hb3
  go_wp2_with (at_builtin; refine Lib.wpList_append_run _ rfl _ _ _ _ rfl _ _ rfl rfl _ _ HR2.out ?_)
  rw [rounds_succ]
  go_wp2_with (at_builtin; refine Lib.wpList_append_run _ rfl _ _ _ _ rfl _ _ rfl rfl _ _ HR3.out ?_)
  rw [rounds_succ]
  go_wp2
  go_ret
  obtain ⟨ao3, cap3, e3, h3⟩ := Cel.of_owns HO3.out
  cases e3
  refine ⟨a3, c3, ?_, by simpa using h3, HB3.out, ?_⟩
  · simp
  · rintro x rfl
    rcases HO3.out.2 with ⟨e, _⟩ | ⟨g, cap', cur, e, hb, _⟩
    · cases e
    · cases e
      exact hb
end Go.Proofs.YtkdomobedfhhgaaGreat
end

section
namespace Go.Proofs.YtkdomobedfhhgaaGreat
open Go Go.Proofs Go.RowKit Go.Shelf Go.Proofs.YtkdomobedfhhgaaGreat.Hp Go.Proofs.YtkdomobedfhhgaaGreat.Ch

theorem mv_under : Tryz.prog.underlying 154 = some (.map 3 155) := Tryz.underlying154
/-- an element reads as itself -/
def heldE (v : Value) : Option (DataW Value × List MemPlace) := some (.held v, [])
theorem heldE_inv {v : Value} {x : Value} {z : List MemPlace} (h : heldE v = some (.held x, z)) : v = x := by
  unfold heldE at h
  cases h
  rfl
abbrev nilS : Value := .slice none 0 0
/-- a map of rows -/
def MapV (w : World) (b n : Nat) (F : Int → Value) : Prop :=
  ∃ D : DataW Value, w.ownsMap Tryz.prog 3 heldE b n D ∧ ∀ u, In6 u → D.atKey (i64K u) (.held nilS) = .held (F u)

def updB (f : Int → Value) (u : Int) (x : Value) : Int → Value := fun v => if v = u then x else f v

variable {w w' : World} {b n : Nat} {F : Int → Value}
theorem MapV.lt (h : MapV w b n F) : b < w.heap.size := let ⟨_, k, _⟩ := h; k.lt
theorem MapV.mono (h : MapV w b n F) {n' : Nat} (hn : n ≤ n') : MapV w b n' F := let ⟨D, k, r⟩ := h; ⟨D, k.mono hn, r⟩
theorem MapV.eq (h : MapV w b n F) (he : w'.heap[b]? = w.heap[b]?) : MapV w' b n F := by
  obtain ⟨D, ⟨es, clock, hb, r⟩, q⟩ := h
  exact ⟨D, ⟨es, clock, he.trans hb, r⟩, q⟩
theorem MapV.go (h : MapV w b n F) (hb : Below w.heap.size w w') : MapV w' b n F := h.eq (hb.block b h.lt)
theorem MapV.off {X : Nat → Prop} (h : MapV w b n F) (ho : OffX X w w') (hn : ¬ X b) : MapV w' b n F := h.eq (ho.block b h.lt hn)
theorem MapV.new (w : World) : MapV (w.alloc (.map #[] 0)) w.heap.size 0 (fun _ => nilS) :=
  ⟨.map [], World.ownsMap_made w _ _ _, fun u _ => rfl⟩
/-- a reading -/
theorem MapV.look (h : MapV w b n F) {u : Int} (hu : In6 u) : (Instr.lookup 154 (.map (some b)) (.int .i64 u) false).run Tryz.prog w = .ok (F u) w := by
  obtain ⟨D, k, q⟩ := h
  obtain ⟨v, ps, h1, h2⟩ := k.lookup mp_keyed mv_under (z := nilS) (by kernel_rfl) (zd := .held nilS) (zp := []) rfl (key := .int .i64 u) (kl := i64K u) (Maps.keyOf_int_mk Tryz.underlying3 (in6_wf hu))
  rw [q u hu] at h2
  rw [h1, heldE_inv h2]
/-- a writing -/
theorem MapV.put (h : MapV w b n F) (hn : n < 1000000000000000000) {u : Int} (x : Value) (hu : In6 u) :
    ∃ w', (Instr.mapUpdate 154 (.map (some b)) (.int .i64 u) x).run Tryz.prog w = .ok () w' ∧ MapV w' b (n + 1) (updB F u x) ∧ OffX (· = b) w w' := by
  obtain ⟨D, k, q⟩ := h
  obtain ⟨w', h1, h2, h3⟩ := k.store (H := Value) mp_keyed mv_under (by unfold maxLen; omega) (key := .int .i64 u) (val := x) (kl := i64K u) (d := .held x) (ps := []) (Maps.keyOf_int_mk Tryz.underlying3 (in6_wf hu)) rfl
  have hg := h3.grown
  refine ⟨w', h1, ⟨_, h2, fun v hv => ?_⟩, ⟨hg.os, hg.tape, hg.output, hg.size, fun j hj hjb => hg.block j hj (fun e => hjb (Option.some.inj e))⟩⟩
  unfold updB
  by_cases e : v = u
  · subst e
    rw [if_pos rfl, Maps.atKey_put_same k.isMap (k := i64K v) trivial]
  · rw [if_neg e, Maps.atKey_put_other (fun h => e (by cases h; rfl))]
    exact q v hv

/-- the cells of a bucket -/
def flatE (l : List (Nat × Int)) : List Value := l.flatMap fun x => [.int .i64 (x.1 : Int), .int .u64 x.2]
theorem flatE_app (l m : List (Nat × Int)) : flatE (l ++ m) = flatE l ++ flatE m := by unfold flatE; rw [List.flatMap_append]
theorem flatE_len (l : List (Nat × Int)) : (flatE l).length = l.length * 2 := by
  induction l with
  | nil => rfl
  | cons a r ih => simp only [flatE, List.flatMap_cons, List.length_append, List.length_cons, List.length_nil] at *; omega
theorem flatE_get {l : List (Nat × Int)} {i : Nat} (hi : i < l.length) : (flatE l)[2 * i]? = some (.int .i64 (l[i].1 : Int)) ∧ (flatE l)[2 * i + 1]? = some (.int .u64 l[i].2) := by
  induction l generalizing i with
  | nil => simp at hi
  | cons a r ih =>
    have e : flatE (a :: r) = [.int .i64 (a.1 : Int), .int .u64 a.2] ++ flatE r := rfl
    cases i with
    | zero => rw [e]; simp
    | succ k =>
      have := ih (i := k) (by simpa using hi)
      rw [e, show 2 * (k + 1) = 2 * k + 2 from by omega]
      simpa using this

/-- the buckets: a row for each node, each one in its own block -/
structure BuW (W : World) (mb base n : Nat) (F : Int → Value) (B : Int → List (Nat × Int)) : Prop where
  map : MapV W mb n F
  row : ∀ u, In6 u → W.ownsRow base 157 2 (F u) (B u).length (flatE (B u))
  far : ∀ u, In6 u → (F u).ownBlock ≠ some mb
  two : ∀ u v, In6 u → In6 v → u ≠ v → ∀ k, (F u).ownBlock = some k → (F v).ownBlock ≠ some k
theorem owns_same {W W' : World} {base n : Nat} {E : TypeId} {s : Nat} {v : Value} {xs : List Value} (h : W.ownsRow base E s v n xs) (hk : ∀ k, v.ownBlock = some k → k < W.heap.size → W'.heap[k]? = W.heap[k]?) : W'.ownsRow base E s v n xs := by
  obtain ⟨h1, h2⟩ := h
  refine ⟨h1, ?_⟩
  rcases h2 with h2 | ⟨g, cap, cur, e, hb, hg, r⟩
  · exact .inl h2
  · subst e
    exact .inr ⟨g, cap, cur, rfl, hb, (hk g rfl (Array.getElem?_eq_some_iff.1 hg).1).trans hg, r⟩
theorem BuW.go {W W' : World} {mb base n : Nat} {F : Int → Value} {B : Int → List (Nat × Int)} (h : BuW W mb base n F B) (hb : Below W.heap.size W W') : BuW W' mb base n F B :=
  ⟨h.map.go hb, fun u hu => owns_same (h.row u hu) (fun k _ hk => hb.block k hk), h.far, h.two⟩
theorem BuW.off {X : Nat → Prop} {W W' : World} {mb base n : Nat} {F : Int → Value} {B : Int → List (Nat × Int)} (h : BuW W mb base n F B) (ho : OffX X W W') (hm : ¬ X mb) (hX : ∀ u, In6 u → ∀ k, (F u).ownBlock = some k → ¬ X k) : BuW W' mb base n F B :=
  ⟨h.map.off ho hm, fun u hu => owns_same (h.row u hu) (fun k e hk => ho.block k hk (hX u hu k e)), h.far, h.two⟩
theorem BuW.new (w : World) (base : Nat) : BuW (w.alloc (.map #[] 0)) w.heap.size base 0 (fun _ => nilS) (fun _ => []) :=
  ⟨MapV.new w, fun u _ => World.ownsRow_nil _ _ _ _, (fun _ _ h => by cases h), (fun _ _ _ _ _ _ h => by cases h)⟩
/-- a row has got one entry more, and goes back -/
theorem BuW.put {W W1 W2 : World} {mb base n : Nat} {F : Int → Value} {B : Int → List (Nat × Int)} {u : Int} {v' : Value} {x : Nat × Int} (h : BuW W mb base n F B) (hu : In6 u)
    (hg : W.grownBy W1 (F u).ownBlock) (hr : W1.ownsRow base 157 2 v' ((B u).length + 1) (flatE (B u) ++ [.int .i64 (x.1 : Int), .int .u64 x.2]))
    (hv : ∀ k, v'.ownBlock = some k → (F u).ownBlock = some k ∨ W.heap.size ≤ k) (hm : MapV W2 mb (n + 1) (updB F u v')) (ho : OffX (· = mb) W1 W2) : BuW W2 mb base (n + 1) (updB F u v') (fun y => if y = u then B u ++ [x] else B y) := by
  have hlt := h.map.lt
  have hv1 : ∀ k, v'.ownBlock = some k → k ≠ mb := by
    intro k hk e
    subst e
    rcases hv _ hk with h1 | h1
    · exact h.far u hu h1
    · omega
  refine ⟨hm, fun y hy => ?_, fun y hy => ?_, fun y z hy hz hyz k hk => ?_⟩
  · unfold updB
    by_cases e : y = u
    · subst e
      simp only [if_true]
      rw [List.length_append, flatE_app]
      exact owns_same hr (fun k hk hlt1 => ho.block k hlt1 (hv1 k hk))
    · simp only [if_neg e]
      refine owns_same (h.row y hy) (fun k hk hlt1 => ?_)
      have h1 := hg.block k hlt1 (fun e2 => h.two y u hy hu e k hk e2.symm)
      rw [← h1]
      refine ho.block k (Nat.lt_of_lt_of_le hlt1 hg.size) (fun e2 => ?_)
      subst e2
      exact h.far y hy hk
  · unfold updB
    by_cases e : y = u
    · simp only [if_pos e]
      exact fun h1 => hv1 _ h1 rfl
    · simp only [if_neg e]
      exact h.far y hy
  · have hnew : ∀ y, In6 y → y ≠ u → ∀ k, (F y).ownBlock = some k → v'.ownBlock ≠ some k := by
      intro y hy e k hk h1
      rcases hv k h1 with h2 | h2
      · exact h.two y u hy hu e k hk h2
      · have := (h.row y hy).lt k hk
        omega
    unfold updB at hk ⊢
    by_cases e : y = u
    · subst e
      rw [if_pos rfl] at hk
      rw [if_neg (Ne.symm hyz)]
      exact fun h2 => hnew z hz (Ne.symm hyz) k h2 hk
    · rw [if_neg e] at hk
      by_cases e2 : z = u
      · subst e2
        rw [if_pos rfl]
        exact hnew y hy e k hk
      · rw [if_neg e2]
        exact h.two y z hy hz hyz k hk

end Go.Proofs.YtkdomobedfhhgaaGreat
end

section
namespace Go.Proofs.YtkdomobedfhhgaaGreat
open Go Go.Proofs Go.RowKit Go.Shelf Go.Proofs.YtkdomobedfhhgaaGreat.Hp Go.Proofs.YtkdomobedfhhgaaGreat.Ch

/-- the buckets hold just the labels of these spaces -/
def BuS (ls : List (List LB)) (B : Int → List (Nat × Int)) : Prop := ∀ u e, e ∈ B u ↔ ∃ l, ls[e.1]? = some l ∧ ∃ b ∈ l, b.v = u ∧ b.d = e.2
theorem BuS.nil : BuS [] (fun _ => []) := fun u e => by simp
theorem BuS.open {ls : List (List LB)} {B : Int → List (Nat × Int)} (h : BuS ls B) : BuS (ls ++ [[]]) B := by
  intro u e
  rw [h u e]
  constructor
  · rintro ⟨l, h1, h2⟩
    have := (List.getElem?_eq_some_iff.1 h1).1
    exact ⟨l, by rw [List.getElem?_append_left this]; exact h1, h2⟩
  · rintro ⟨l, h1, b, h2, h3⟩
    rcases Nat.lt_or_ge e.1 ls.length with k | k
    · rw [List.getElem?_append_left k] at h1
      exact ⟨l, h1, b, h2, h3⟩
    · rw [List.getElem?_append_right k] at h1
      have : e.1 - ls.length = 0 := by
        have := (List.getElem?_eq_some_iff.1 h1).1
        simp at this
        omega
      rw [this] at h1
      cases h1
      cases h2
theorem BuS.add {ls : List (List LB)} {l : List LB} {x : LB} {B : Int → List (Nat × Int)} (h : BuS (ls ++ [l]) B) : BuS (ls ++ [l ++ [x]]) (fun y => if y = x.v then B x.v ++ [(ls.length, x.d)] else B y) := by
  intro u e
  have hk : (e.1 < ls.length ∧ (ls ++ [l])[e.1]? = ls[e.1]? ∧ (ls ++ [l ++ [x]])[e.1]? = ls[e.1]?) ∨ (e.1 = ls.length ∧ (ls ++ [l])[e.1]? = some l ∧ (ls ++ [l ++ [x]])[e.1]? = some (l ++ [x])) ∨ (ls.length < e.1 ∧ (ls ++ [l])[e.1]? = none ∧ (ls ++ [l ++ [x]])[e.1]? = none) := by
    rcases Nat.lt_trichotomy e.1 ls.length with k | k | k
    · exact .inl ⟨k, List.getElem?_append_left k, List.getElem?_append_left k⟩
    · refine .inr (.inl ⟨k, ?_, ?_⟩) <;> rw [k, List.getElem?_append_right (Nat.le_refl _)] <;> simp
    · refine .inr (.inr ⟨k, ?_, ?_⟩) <;> rw [List.getElem?_eq_none] <;> simp <;> omega
  have h1 := h u e
  have key : (e ∈ (if u = x.v then B x.v ++ [(ls.length, x.d)] else B u)) ↔ (e ∈ B u ∨ (u = x.v ∧ e = (ls.length, x.d))) := by
    by_cases hu : u = x.v
    · subst hu
      simp
    · simp [hu]
  rw [key, h1]
  rcases hk with ⟨k, e1, e2⟩ | ⟨k, e1, e2⟩ | ⟨k, e1, e2⟩
  · rw [e1, e2]
    constructor
    · rintro (h | ⟨_, rfl⟩)
      · exact h
      · exact absurd k (by simp)
    · exact .inl
  · rw [e1, e2]
    constructor
    · rintro (⟨l', h2, b, h3, h4⟩ | ⟨rfl, rfl⟩)
      · cases h2
        exact ⟨_, rfl, b, List.mem_append_left _ h3, h4⟩
      · exact ⟨_, rfl, x, by simp, rfl, rfl⟩
    · rintro ⟨l', h2, b, h3, h4, h5⟩
      cases h2
      rcases List.mem_append.1 h3 with h3 | h3
      · exact .inl ⟨_, rfl, b, h3, h4, h5⟩
      · obtain rfl := List.mem_singleton.1 h3
        exact .inr ⟨h4.symm, by rw [← k, h5]⟩
  · rw [e1, e2]
    constructor
    · rintro (⟨_, h, _⟩ | ⟨_, rfl⟩)
      · cases h
      · exact absurd k (by simp)
    · rintro ⟨_, h, _⟩
      cases h
theorem BuS.in {ls : List (List LB)} {B : Int → List (Nat × Int)} (h : BuS ls B) {C : LB → Prop} (hl : ∀ l ∈ ls, ∀ b ∈ l, C b) {u : Int} {e : Nat × Int} (he : e ∈ B u) : e.1 < ls.length ∧ ∃ b, C b ∧ b.v = u ∧ b.d = e.2 := by
  obtain ⟨l, h1, b, h2, h3, h4⟩ := (h u e).1 he
  exact ⟨(List.getElem?_eq_some_iff.1 h1).1, b, hl l (List.mem_of_getElem? h1) b h2, h3, h4⟩

/-- a row of least sums: T: which sums have been seen at each place -/
structure MinR (m : Nat) (row : List Int) (T : Nat → Int → Prop) : Prop where
  len : row.length = m
  low : ∀ k, k < m → ∀ x, T k x → gD row k ≤ x
  hit : ∀ k, k < m → gD row k = 4611686018427387904 ∨ T k (gD row k)
  le : ∀ k, k < m → gD row k ≤ 4611686018427387904
theorem gD_set {row : List Int} {i j : Nat} {x : Int} (hi : i < row.length) : gD (row.set i x) (j : Int) = if j = i then x else gD row (j : Int) := by
  unfold gD
  simp only [Int.toNat_natCast]
  by_cases e : j = i
  · subst e
    simp [List.getD, hi]
  · rw [if_neg e]
    simp [List.getD, List.getElem?_set, Ne.symm e]
theorem MinR.start (m : Nat) : MinR m (List.replicate m 4611686018427387904) (fun _ _ => False) := by
  have hk : ∀ k, k < m → gD (List.replicate m 4611686018427387904) (k : Int) = 4611686018427387904 := by
    intro k hk
    unfold gD
    simp [List.getD, hk]
  exact ⟨by simp, fun _ _ _ h => h.elim, fun k h => .inl (hk k h), fun k h => by rw [hk k h]; exact Int.le_refl _⟩
theorem MinR.put {m k : Nat} {row : List Int} {T : Nat → Int → Prop} (h : MinR m row T) (hk : k < m) (x : Int) : MinR m (row.set k (min (gD row k) x)) (fun j y => T j y ∨ (j = k ∧ y = x)) := by
  have hl := h.len
  have hg : ∀ j : Nat, gD (row.set k (min (gD row k) x)) (j : Int) = if j = k then min (gD row k) x else gD row j := by
    intro j
    exact gD_set (by rw [hl]; exact hk)
  have a1 := h.low k hk
  have a2 := h.hit k hk
  have a3 := h.le k hk
  refine ⟨by simp [hl], fun j hj y hy => ?_, fun j hj => ?_, fun j hj => ?_⟩ <;> rw [hg j] <;> by_cases e : j = k
  · subst e
    rw [if_pos rfl]
    rcases hy with hy | ⟨_, rfl⟩
    · have := a1 y hy; omega
    · omega
  · rw [if_neg e]
    rcases hy with hy | ⟨e2, _⟩
    · exact h.low j hj y hy
    · exact absurd e2 e
  · subst e
    rw [if_pos rfl]
    rcases Int.le_total x (gD row j) with k1 | k1
    · rw [Int.min_eq_right k1]
      exact .inr (.inr ⟨rfl, rfl⟩)
    · rw [Int.min_eq_left k1]
      exact a2.imp_right .inl
  · rw [if_neg e]
    exact (h.hit j hj).imp_right .inl
  · subst e
    rw [if_pos rfl]
    omega
  · rw [if_neg e]
    exact h.le j hj
theorem MinR.cong {m : Nat} {row : List Int} {T T' : Nat → Int → Prop} (h : MinR m row T) (he : ∀ k x, T k x ↔ T' k x) : MinR m row T' :=
  ⟨h.len, fun k hk x hx => h.low k hk x ((he k x).2 hx), fun k hk => (h.hit k hk).imp_right (he _ _).1, h.le⟩
/-- the sums that come by the first i labels, and the first j entries of the next one's bucket -/
def SumT (la : List LB) (B : Int → List (Nat × Int)) (i j : Nat) (k : Nat) (x : Int) : Prop :=
  (∃ a ∈ la.take i, ∃ e ∈ B a.v, e.1 = k ∧ x = a.d + e.2) ∨ ∃ (h : i < la.length), ∃ e ∈ (B la[i].v).take j, e.1 = k ∧ x = la[i].d + e.2
theorem SumT.none {la : List LB} {B : Int → List (Nat × Int)} {k : Nat} {x : Int} : SumT la B 0 0 k x ↔ False := by
  unfold SumT
  simp
theorem SumT.one {la : List LB} {B : Int → List (Nat × Int)} {i j k : Nat} {x : Int} (hi : i < la.length) (hj : j < (B la[i].v).length) : (SumT la B i j k x ∨ (k = (B la[i].v)[j].1 ∧ x = la[i].d + (B la[i].v)[j].2)) ↔ SumT la B i (j + 1) k x := by
  unfold SumT
  have hT := List.take_succ_eq_append_getElem hj
  constructor
  · rintro ((h | ⟨h, e, h1, h2⟩) | ⟨rfl, rfl⟩)
    · exact .inl h
    · exact .inr ⟨h, e, by rw [hT]; exact List.mem_append_left _ h1, h2⟩
    · exact .inr ⟨hi, _, by rw [hT]; exact List.mem_append_right _ (List.mem_singleton.2 rfl), rfl, rfl⟩
  · rintro (h | ⟨h, e, h1, h2, h3⟩)
    · exact .inl (.inl h)
    · rw [hT] at h1
      rcases List.mem_append.1 h1 with h1 | h1
      · exact .inl (.inr ⟨h, e, h1, h2, h3⟩)
      · obtain rfl := List.mem_singleton.1 h1
        exact .inr ⟨h2.symm, h3⟩
theorem SumT.next {la : List LB} {B : Int → List (Nat × Int)} {i k : Nat} {x : Int} (hi : i < la.length) : SumT la B i (B la[i].v).length k x ↔ SumT la B (i + 1) 0 k x := by
  unfold SumT
  rw [List.take_succ_eq_append_getElem hi]
  constructor
  · rintro (⟨a, h1, h2⟩ | ⟨h, e, h1, h2⟩)
    · exact .inl ⟨a, List.mem_append_left _ h1, h2⟩
    · rw [List.take_length] at h1
      exact .inl ⟨_, List.mem_append_right _ (List.mem_singleton.2 rfl), e, h1, h2⟩
  · rintro (⟨a, h1, h2⟩ | ⟨h, e, h1, h2⟩)
    · rcases List.mem_append.1 h1 with h1 | h1
      · exact .inl ⟨a, h1, h2⟩
      · obtain rfl := List.mem_singleton.1 h1
        obtain ⟨e, h3, h4⟩ := h2
        exact .inr ⟨hi, e, by rw [List.take_length]; exact h3, h4⟩
    · simp at h1
theorem SumT.all {la : List LB} {B : Int → List (Nat × Int)} {k : Nat} {x : Int} : SumT la B la.length 0 k x ↔ ∃ a ∈ la, ∃ e ∈ B a.v, e.1 = k ∧ x = a.d + e.2 := by
  unfold SumT
  rw [List.take_length]
  constructor
  · rintro (h | ⟨h, _⟩)
    · exact h
    · exact absurd h (Nat.lt_irrefl _)
  · exact .inl

/-- a row of the table -/
def TabRow (es : List EdgeD) (s : Int) (tl row : List Int) : Prop := row.length = tl.length ∧ ∀ k (hk : k < tl.length), FarV (arcG es) s tl[k] (gD row (k : Int)) ∧ (gD row (k : Int) = 4611686018427387904 ∨ gD row (k : Int) ≤ 422212465065984)
/-- the spaces of the first ends -/
def SpsOK (es : List EdgeD) (S : List SC) (ro : List Int) (n : Nat) (tl : List Int) (ls : List (List LB)) : Prop :=
  ∀ (j : Nat) (l : List LB), ls[j]? = some l → ∃ t : Nat, tl[j]? = some (t : Int) ∧ t < n ∧ Space (relB true (arcG es)) (XN S true) (rk ro) (t : Int) (l.map labOf)
theorem SpsOK.add {es : List EdgeD} {S : List SC} {ro : List Int} {n : Nat} {tl : List Int} {ls : List (List LB)} {l : List LB} {k t : Nat} (h : SpsOK es S ro n tl ls) (hl : ls.length = k) (ht : tl[k]? = some (t : Int)) (htn : t < n) (hs : Space (relB true (arcG es)) (XN S true) (rk ro) (t : Int) (l.map labOf)) : SpsOK es S ro n tl (ls ++ [l]) := by
  intro j l' hj
  rcases Nat.lt_trichotomy j ls.length with e | e | e
  · rw [List.getElem?_append_left e] at hj
    exact h j l' hj
  · rw [e, List.getElem?_append_right (Nat.le_refl _), Nat.sub_self] at hj
    cases hj
    exact ⟨t, by rw [e, hl]; exact ht, htn, hs⟩
  · rw [List.getElem?_eq_none (by simp; omega)] at hj
    cases hj
theorem tab_row {es : List EdgeD} {n : Nat} {R : List Int} {S : List SC} {ro : List Int} {s : Nat} {tl row : List Int} {la : List LB} {ls : List (List LB)} {B : Int → List (Nat × Int)} (hok : HierOK es n R S ro) (hn : n ≤ 12) (hs : s < n)
    (ha : Space (relB false (arcG es)) (XN S false) (rk ro) (s : Int) (la.map labOf)) (hl : ls.length = tl.length) (hsp : SpsOK es S ro n tl ls) (hb : BuS ls B) (hm : MinR tl.length row (SumT la B la.length 0)) : TabRow es s tl row := by
  refine ⟨hm.len, fun k hk => ?_⟩
  obtain ⟨t, ht, htn, hS⟩ := hsp k ls[k] (List.getElem?_eq_getElem (by omega))
  rw [List.getElem?_eq_getElem hk] at ht
  rw [Option.some.inj ht]
  have hla := labsOK hok ha hs hn
  have hlb := labsOK hok hS htn hn
  obtain ⟨b1, b2⟩ := Space.both (A := arcG es) (X := XN S false) (Y := XN S true) (hok.hierB false) ha hS
  have hT : ∀ x, SumT la B la.length 0 k x ↔ ∃ a ∈ la, ∃ b ∈ ls[k], a.v = b.v ∧ x = a.d + b.d := by
    intro x
    rw [SumT.all]
    constructor
    · rintro ⟨a, h1, e, h2, rfl, rfl⟩
      obtain ⟨l, h3, b, h4, h5, h6⟩ := (hb _ _).1 h2
      have : ls[e.1] = l := by rw [List.getElem?_eq_getElem (by omega)] at h3; exact Option.some.inj h3
      subst this
      exact ⟨a, h1, b, h4, h5.symm, by rw [h6]⟩
    · rintro ⟨a, h1, b, h2, h3, rfl⟩
      exact ⟨a, h1, (k, b.d), (hb _ _).2 ⟨_, List.getElem?_eq_getElem (by omega), b, h2, h3.symm, rfl⟩, rfl, rfl⟩
  have hW : ∀ x, SumT la B la.length 0 k x → Way0 (arcG es) Any s t x ∧ 0 ≤ x ∧ x ≤ 422212465065984 := by
    intro x hx
    obtain ⟨a, h1, b, h2, h3, rfl⟩ := (hT x).1 hx
    have h4 := hla a h1
    have h5 := hlb b h2
    exact ⟨b1 (labOf a) (List.mem_map.2 ⟨a, h1, rfl⟩) (labOf b) (List.mem_map.2 ⟨b, h2, rfl⟩) h3, by omega, by omega⟩
  have hD : ∀ d, Dist (arcG es) s t d → SumT la B la.length 0 k d := by
    intro d hd
    obtain ⟨a, h1, b, h2, h3, h4⟩ := b2 d hd
    obtain ⟨a', h5, rfl⟩ := List.mem_map.1 h1
    obtain ⟨b', h6, rfl⟩ := List.mem_map.1 h2
    exact (hT d).2 ⟨a', h5, b', h6, h3, h4.symm⟩
  have hA1 : ∀ u v w, arcG es u v w → 1 ≤ w := (hok.hierB false).pos
  rcases hm.hit k hk with h1 | h1
  · refine ⟨.inr ⟨h1, fun e he => ?_⟩, .inl h1⟩
    obtain ⟨d, hd⟩ := dist_some hA1 he
    have h2 := hD d hd
    have h3 := hm.low k hk d h2
    have h4 := hW d h2
    omega
  · obtain ⟨h2, h3, h4⟩ := hW _ h1
    obtain ⟨d, hd⟩ := dist_some hA1 h2
    have h5 := hm.low k hk d (hD d hd)
    have h6 := hd.2 _ h2
    have : d = gD row (k : Int) := by omega
    subst this
    exact ⟨.inl ⟨hd, h3, by omega⟩, .inr h4⟩

/-- how far it is: the one number that may be told -/
noncomputable def distV (es : List EdgeD) (s t : Int) : Int := @dite _ (∃ x, FarV (arcG es) s t x) (Classical.propDecidable _) (fun h => Classical.choose h) (fun _ => 0)
theorem FarV.eqD {es : List EdgeD} {s t x : Int} (h : FarV (arcG es) s t x) : x = distV es s t := by
  have h2 : ∃ x, FarV (arcG es) s t x := ⟨x, h⟩
  unfold distV
  rw [dif_pos h2]
  exact h.uniq (Classical.choose_spec h2)
theorem TabRow.eq {es : List EdgeD} {s : Int} {tl row : List Int} (h : TabRow es s tl row) : row = tl.map (distV es s) := by
  refine List.ext_getElem (by simp [h.1]) (fun i h1 h2 => ?_)
  have h3 := (h.2 i (by rw [← h.1]; exact h1)).1.eqD
  rw [List.getElem_map, ← h3]
  unfold gD
  simp [List.getD, h1]
/-- what is known of a distance that was told -/
def DistT (es : List EdgeD) (s t : Int) : Prop := FarV (arcG es) s t (distV es s t) ∧ (distV es s t = 4611686018427387904 ∨ distV es s t ≤ 422212465065984)
theorem TabRow.at {es : List EdgeD} {s : Int} {tl row : List Int} (h : TabRow es s tl row) {k : Nat} (hk : k < tl.length) : DistT es s tl[k] ∧ gD row (k : Int) = distV es s tl[k] := by
  obtain ⟨h1, h2⟩ := h.2 k hk
  have h3 := h1.eqD
  rw [h3] at h1 h2
  exact ⟨⟨h1, h2⟩, h3⟩
theorem DistT.in {es : List EdgeD} {s t : Int} (h : DistT es s t) : 0 ≤ distV es s t ∧ distV es s t ≤ 4611686018427387904 := h.1.in
theorem DistT.lt {es : List EdgeD} {s t : Int} (h : DistT es s t) (hx : distV es s t < 4611686018427387904) : Dist (arcG es) s t (distV es s t) ∧ distV es s t ≤ 422212465065984 := by
  obtain ⟨h1, h2⟩ := h
  exact ⟨(h1.lt hx).1, by omega⟩

/-- the legs of a tour -/
def legSum (D : Int → Int → Int) (l : List Int) : Nat → Int
  | 0 => 0
  | k + 1 => legSum D l k + D (l.getD k 0) (l.getD (k + 1) 0)
def legsOK (D : Int → Int → Int) (l : List Int) (k : Nat) : Prop := ∀ j, j < k → D (l.getD j 0) (l.getD (j + 1) 0) < 4611686018427387904
theorem legsOK.none (D : Int → Int → Int) (l : List Int) : legsOK D l 0 := fun j h => absurd h (Nat.not_lt_zero _)
theorem legsOK.more {D : Int → Int → Int} {l : List Int} {k : Nat} (h : legsOK D l k) (hk : D (l.getD k 0) (l.getD (k + 1) 0) < 4611686018427387904) : legsOK D l (k + 1) := by
  intro j hj
  by_cases e : j = k
  · subst e; exact hk
  · exact h j (by omega)
theorem legSum_in {es : List EdgeD} {l : List Int} : ∀ {k : Nat}, legsOK (distV es) l k → (∀ j, j < k → DistT es (l.getD j 0) (l.getD (j + 1) 0)) → 0 ≤ legSum (distV es) l k ∧ legSum (distV es) l k ≤ 422212465065984 * (k : Int)
  | 0, _, _ => by simp [legSum]
  | k + 1, h, hd => by
    obtain ⟨h1, h2⟩ := legSum_in (k := k) (fun j hj => h j (by omega)) (fun j hj => hd j (by omega))
    have h3 := hd k (by omega)
    have h4 := (h3.lt (h k (by omega))).2
    have h5 := h3.in.1
    show 0 ≤ legSum (distV es) l k + distV es (l.getD k 0) (l.getD (k + 1) 0) ∧ legSum (distV es) l k + distV es (l.getD k 0) (l.getD (k + 1) 0) ≤ _
    have e : ((k + 1 : Nat) : Int) = (k : Int) + 1 := by omega
    rw [e]
    omega
/-- a tour is never nearer than its ends -/
theorem legs_way {es : List EdgeD} {l : List Int} : ∀ {k : Nat}, legsOK (distV es) l k → (∀ j, j < k → DistT es (l.getD j 0) (l.getD (j + 1) 0)) → Way0 (arcG es) Any (l.getD 0 0) (l.getD k 0) (legSum (distV es) l k)
  | 0, _, _ => .inl ⟨rfl, rfl⟩
  | k + 1, h, hd => by
    have h1 := legs_way (k := k) (fun j hj => h j (by omega)) (fun j hj => hd j (by omega))
    have h2 := ((hd k (by omega)).lt (h k (by omega))).1.1
    exact h1.trans trivial h2
theorem tour_ends {es : List EdgeD} {l : List Int} {k : Nat} (h : legsOK (distV es) l k) (hd : ∀ j, j < k → DistT es (l.getD j 0) (l.getD (j + 1) 0)) (he : DistT es (l.getD 0 0) (l.getD k 0)) : distV es (l.getD 0 0) (l.getD k 0) ≤ legSum (distV es) l k := by
  have h1 := legs_way h hd
  rcases he.1 with ⟨h2, -⟩ | ⟨h2, h3⟩
  · exact h2.2 _ h1
  · exact absurd h1 (h3 _)

end Go.Proofs.YtkdomobedfhhgaaGreat
end
