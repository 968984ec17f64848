/-
  Walk of slices.IndexFunc and slices.DeleteFunc at arcs, as package contract calls them.
-/
import Derived.Test.YtkdomobedfhhgaaProg
import Derived.Test.YtkdomobedfhhgaaQt08
import Derived.Lib.SliceRun
set_option linter.unusedVariables false
set_option linter.unusedSimpArgs false
set_option linter.unnecessarySimpa false
namespace Go.Proofs.Ytkdomobedfhhgaa
open Go Go.Proofs Go.RowKit Go.Shelf Go.Proofs.Ytkdomobedfhhgaa.Hp

/-- arcs to a node -/
abbrev toP (t : Int) (a : IK) : Bool := decide (a.1 = t)
structure DfI (t : Int) (l cur : List IK) (i j : Nat) : Prop where
  le : i ≤ j
  jn : j ≤ l.length
  len : cur.length = l.length
  hd : cur.take i = (l.take j).filter (fun a => !toP t a)
  tl : ∀ k, j ≤ k → cur[k]? = l[k]?
theorem DfI.drop {t : Int} {l cur : List IK} {i j : Nat} (h : DfI t l cur i j) (hj : j < l.length) (hp : toP t l[j] = true) : DfI t l cur i (j + 1) :=
  ⟨by have := h.le; omega, hj, h.len, by rw [h.hd, List.take_succ_eq_append_getElem hj, List.filter_append]; simp [hp], fun k hk => h.tl k (by omega)⟩
theorem DfI.keep {t : Int} {l cur : List IK} {i j : Nat} (h : DfI t l cur i j) (hj : j < l.length) (hp : toP t l[j] = false) : DfI t l (cur.set i l[j]) (i + 1) (j + 1) := by
  have hle := h.le
  have hlen := h.len
  refine ⟨by omega, hj, by rw [List.length_set]; exact hlen, ?_, fun k hk => by rw [List.getElem?_set_ne (by omega)]; exact h.tl k (by omega)⟩
  rw [List.take_succ_eq_append_getElem (by rw [List.length_set]; omega), List.take_succ_eq_append_getElem hj, List.filter_append, ← h.hd]
  rw [List.getElem_set_self]
  congr 1
  · rw [List.take_set_of_le (Nat.le_refl _)]
  · simp [hp]
theorem DfI.begin {t : Int} {l : List IK} {i : Nat} (hi : i < l.length) (hp : toP t l[i] = true) (hb : ∀ k (h : k < i), toP t (l[k]'(by omega)) = false) : DfI t l l i (i + 1) := by
  refine ⟨by omega, hi, rfl, ?_, fun _ _ => rfl⟩
  rw [List.take_succ_eq_append_getElem hi, List.filter_append]
  have : (l.take i).filter (fun a => !toP t a) = l.take i := by
    rw [List.filter_eq_self]
    intro a ha
    obtain ⟨k, hk, rfl⟩ := List.mem_iff_getElem.1 ha
    rw [List.getElem_take, hb k (by simp at hk; omega)]
    rfl
  rw [this]
  simp [hp]
theorem DfI.done {t : Int} {l cur : List IK} {i : Nat} (h : DfI t l cur i l.length) : cur.take i = l.filter (fun a => !toP t a) := by rw [h.hd, List.take_length]

set_option maxRecDepth 100000 in
set_option maxHeartbeats 1000000 in
theorem add1_any (a : IK) (t : Int) (X : Nat) (w : World) (hx : w.cell? ⟨X, 1, none⟩ = some (.int .i64 t)) :
    Calls Try.prog 51 (#[.agg #[.int .i64 a.1, .int .u64 a.2]] ++ #[.pointer (some ⟨X, 0, none⟩)]) w fun e w' => e = .returned (.bool (toP t a)) ∧ Below w.heap.size w w' := by
  have f := fun o => cell_later (Below.of_al w o) hx
  have he : (a.1 == t) = toP t a := by unfold toP; rw [Bool.eq_iff_iff, beq_iff_eq, decide_eq_true_eq]
  go_enter Try.func51, Try.ntmps51
  go_wp2
  go_ret
  exact ⟨rfl, Below.of_al _ _⟩
theorem add1_enters : Enters Try.prog 51 := enters_of Try.func51 (by kernel_rfl) rfl

/-- the first arc to a node -/
def idxP (t : Int) (l : List IK) : Int := match l.findIdx? (toP t) with
  | some i => (i : Int)
  | none => -1
theorem idxP_at {t : Int} {l : List IK} {i : Nat} (hi : i < l.length) (hp : toP t l[i] = true) (hb : ∀ k (h : k < i), toP t (l[k]'(by omega)) = false) : idxP t l = (i : Int) := by
  unfold idxP
  have : l.findIdx? (toP t) = some i := by
    rw [List.findIdx?_eq_some_iff_getElem]
    exact ⟨hi, hp, fun k hk => by rw [hb k hk]; simp⟩
  rw [this]
theorem idxP_no {t : Int} {l : List IK} (hb : ∀ k (h : k < l.length), toP t l[k] = false) : idxP t l = -1 := by
  unfold idxP
  have : l.findIdx? (toP t) = none := by
    rw [List.findIdx?_eq_none_iff]
    intro a ha
    obtain ⟨k, hk, rfl⟩ := List.mem_iff_getElem.1 ha
    exact hb k hk
  rw [this]

set_option maxRecDepth 100000 in
set_option maxHeartbeats 2000000 in
theorem idxArc_any (t : Int) (l : List IK) (ao : Option Addr) (cap X : Nat) (w : World) (h : Cel w ao (flatI l)) (hx : w.cell? ⟨X, 1, none⟩ = some (.int .i64 t)) (hl : l.length ≤ 1000000) :
    Calls Try.prog 67 #[.slice ao l.length cap, .func (.func 51) #[] #[.pointer (some ⟨X, 0, none⟩)]] w fun e w' => e = .returned (.int .i64 (idxP t l)) ∧ Below w.heap.size w w' := by
  have HC := Lib.hid h
  have HX := Lib.hid hx
  clear h hx
  have hl2 : (l.length : Int) ≤ 1000000 := by omega
  generalize hr : idxP t l = r
  have HR := Lib.hid hr
  clear hr
  go_enter Try.func67, Try.ntmps67
  go_wp2
  go_loopg [8] l.length (fun gg v8 wr => ∃ j : Nat, j ≤ l.length ∧ l.length - j ≤ gg ∧ v8 = .int .i64 j ∧ Aside (∀ k (h : k < l.length), k < j → toP t l[k] = false) ∧ Aside (Below w.heap.size w wr))
  case atStart => exact ⟨0, Nat.zero_le _, by omega, rfl, fun k _ h => absurd h (Nat.not_lt_zero _), Below.refl _ _⟩
  case round =>
    obtain ⟨j, hj, hg, rfl, HF, HB⟩ := hrel
    by_cases hlt : j < l.length
    · have hlt2 : (j : Int) < (l.length : Int) := by omega
      obtain ⟨x0, x1⟩ := flatI_get l j hlt
      rw [gI_in hlt] at x0 x1
      obtain ⟨aib, aio, e, y0⟩ := HC.out (j * 2) _ x0
      subst e
      obtain ⟨aib2, aio2, e, y1⟩ := HC.out (j * 2 + 1) _ x1
      cases e
      have z0 := cell_later HB.out y0
      have z1 := cell_later HB.out y1
      rw [← Nat.add_assoc] at z1
      clear y0 y1 x0 x1
      cases hp : toP t l[j] with
      | true =>
        have HA := Lib.hid (hp ▸ add1_any l[j] t X wr (cell_later HB.out HX.out))
        have HE := Lib.hid (idxP_at hlt hp (fun k hk => HF.out k (by omega) hk))
        clear hp
        generalize l[j] = q at *
        go_wp2_with (go_at_call 51; refine HA.out.mono ?_; rintro e w5 ⟨rfl, hb5⟩)
        try simp only [Exit.noGoto]
        go_ret
        exact ⟨by rw [← HR.out, HE.out]; rfl, HB.out.st hb5⟩
      | false =>
        have HA := Lib.hid (hp ▸ add1_any l[j] t X wr (cell_later HB.out HX.out))
        have HF2 := Lib.hid (show ∀ k (h : k < l.length), k < j + 1 → toP t l[k] = false from fun k h hk => by
          by_cases e : k = j
          · subst e; exact hp
          · exact HF.out k h (by omega))
        clear hp
        generalize l[j] = q at *
        go_wp2_with (go_at_call 51; refine HA.out.mono ?_; rintro e w5 ⟨rfl, hb5⟩)
        go_roundg (l.length - (j + 1))
        case measure => omega
        case rel => exact ⟨j + 1, by omega, Nat.le_refl _, by go_num, HF2.out, HB.out.st hb5⟩
    · obtain rfl : j = l.length := by omega
      have HE := Lib.hid (idxP_no (t := t) (fun k hk => HF.out k hk hk))
      go_wp2
      try simp only [Exit.noGoto]
      go_ret
      exact ⟨by rw [← HR.out, HE.out]; rfl, HB.out⟩

/-- cells are laid one behind the other in a row of one's own -/
theorem owns_setCells {base size n g cap : Nat} {e : TypeId} : ∀ (vs : List Value) (o : Nat) (w : World) (xs : List Value), w.ownsRow base e size (.slice (some ⟨g, 0, none⟩) n cap) n xs → o + vs.length ≤ xs.length →
    ∃ ys, (w.setCells g o vs).ownsRow base e size (.slice (some ⟨g, 0, none⟩) n cap) n ys ∧ ys.take o = xs.take o ∧ ys.length = xs.length ∧ OffX (· = g) w (w.setCells g o vs)
  | [], o, w, xs, h, _ => ⟨xs, h, rfl, rfl, .refl _ _⟩
  | v :: vs, o, w, xs, h, hl => by
    have hl2 : o + (vs.length + 1) ≤ xs.length := by simpa using hl
    have h1 := (h.stored o v).1
    obtain ⟨ys, y1, y2, y3, y4⟩ := owns_setCells vs (o + 1) (w.setCell ⟨g, o, none⟩ v) (xs.set o v) h1 (by rw [List.length_set]; omega)
    refine ⟨ys, y1, ?_, by rw [y3, List.length_set], (OffX.set (X := (· = g)) v rfl).trans y4⟩
    have := congrArg (List.take o) y2
    rw [List.take_take, List.take_take, Nat.min_eq_left (by omega), List.take_set_of_le (Nat.le_refl _)] at this
    exact this
theorem run_clear2 {P : Program} (w : World) (t e : TypeId) (z : Value) (ht : P.underlying t = some (.slice e)) (hv : ∀ w, (zeroValue e).run P w = .ok z w) (h2 : z.cells.size = 2) (h1 : ∀ u ∈ z.cells.toList, u.oneCell' = true) (b o n c : Nat) (hn : 0 < n)
    (hc : ∀ j, j < n * 2 → (w.cell? ⟨b, o + j, none⟩).isSome = true) (hf : ∀ j, j < n * 2 → w.frozen? ⟨b, o + j, none⟩ = false) :
    ∃ vs, vs.length = n * 2 ∧ ∀ ty, (Builtin.clear_ #[t] ty #[.slice (some ⟨b, o, none⟩) n c]).run P w = .ok (.tuple #[]) (w.setCells b o vs) := by
  have hzl : ((Builtin.zeroCells z.cells n).toList).length = n * 2 := by simp [Builtin.zeroCells, h2, Nat.mul_comm]
  have hst := run_storeCells_cells (P := P) b o (Builtin.zeroCells z.cells n).toList 0 w (by simpa [hzl] using hc) (by simpa [hzl] using hf) (by
    intro v hv'
    apply h1
    simp [Builtin.zeroCells] at hv'
    obtain ⟨k, hk, rfl⟩ := hv'
    rw [Array.getElem!_eq_getD]
    simp [Array.getD, h2, Nat.mod_lt])
  simp only [Nat.add_zero] at hst
  obtain ⟨m, rfl⟩ : ∃ m, n = m + 1 := ⟨n - 1, by omega⟩
  refine ⟨_, hzl, fun ty => ?_⟩
  simp [Builtin.clear_, run_underlying ht, hv, hst]

theorem owns_cut {w : World} {base size n g cap m : Nat} {e : TypeId} {xs : List Value} (h : w.ownsRow base e size (.slice (some ⟨g, 0, none⟩) n cap) n xs) (hm : m ≤ n) : w.ownsRow base e size (.slice (some ⟨g, 0, none⟩) m cap) m (xs.take (m * size)) := by
  have hms : m * size ≤ n * size := Nat.mul_le_mul_right _ hm
  refine ⟨by rw [List.length_take, h.1]; omega, ?_⟩
  rcases h.2 with ⟨e, _⟩ | ⟨g', cap', cur, e, h1, h2, h3, h4, h5, h6⟩
  · cases e
  · cases e
    refine .inr ⟨g, cap, cur, rfl, h1, h2, by omega, h4, h5, ?_⟩
    rw [← h6, List.take_take, Nat.min_eq_left hms]
theorem flatI_take : ∀ (l : List IK) (i : Nat), (flatI l).take (i * 2) = flatI (l.take i)
  | [], i => by simp [flatI]
  | x :: l, 0 => by simp [flatI]
  | x :: l, i + 1 => by
    rw [show (i + 1) * 2 = i * 2 + 1 + 1 by omega, flatI, List.take_succ_cons, List.take_succ_cons, flatI_take l i]
    rfl
/-- what DeleteFunc leaves -/
def DelPost (base : Nat) (t : Int) (l : List IK) (ao : Option Addr) (cap : Nat) (w : World) (e : Ending) (w' : World) : Prop :=
  e = .returned (.slice ao (l.filter (fun a => !toP t a)).length cap) ∧ w'.ownsRow base 103 2 (.slice ao (l.filter (fun a => !toP t a)).length cap) (l.filter (fun a => !toP t a)).length (flatI (l.filter (fun a => !toP t a))) ∧
    OffX (fun k => (Value.slice ao l.length cap).ownBlock = some k) w w'
theorem elem_arc : Elem Try.prog 103 (.agg #[.int .i64 0, .int .u64 0]) 2 16 := ⟨by kernel_rfl, rfl, by decide⟩
theorem zero_arc (w : World) : (zeroValue 103).run Try.prog w = .ok (.agg #[.int .i64 0, .int .u64 0]) w := by kernel_rfl

set_option maxRecDepth 100000 in
set_option maxHeartbeats 4000000 in
theorem delArc_any (base : Nat) (t : Int) (l : List IK) (ao : Option Addr) (cap X : Nat) (w : World) (h : w.ownsRow base 103 2 (.slice ao l.length cap) l.length (flatI l)) (hx : w.cell? ⟨X, 1, none⟩ = some (.int .i64 t)) (hX : ∀ k, (Value.slice ao l.length cap).ownBlock = some k → k ≠ X) (hl : l.length ≤ 1000000) :
    Calls Try.prog 50 #[.slice ao l.length cap, .func (.func 51) #[] #[.pointer (some ⟨X, 0, none⟩)]] w (DelPost base t l ao cap w) := by
  obtain ⟨ao', c', e, hc⟩ := Cel.of_owns h
  cases e
  have HI := Lib.hid (idxArc_any t l ao cap X w hc hx hl)
  have HO := Lib.hid h
  have HX := Lib.hid hx
  have hl2 : (l.length : Int) ≤ 1000000 := by omega
  unfold DelPost
  by_cases hex : ∃ i, ∃ hi : i < l.length, toP t l[i] = true ∧ ∀ k (h : k < i), toP t (l[k]'(by omega)) = false
  · obtain ⟨i, hi, hp, hb⟩ := hex
    obtain ⟨g, cg, e⟩ := own_form h (by omega)
    cases e
    rw [idxP_at hi hp hb] at HI
    have HD := Lib.hid (DfI.begin hi hp hb)
    have HGX := Lib.hid (hX g rfl)
    clear hp hb hc h hx hX
    have hi1 : ((i : Int) == -1) = false := by rw [beq_eq_false_iff_ne]; omega
    have hi2 : (i : Int) < (l.length : Int) := by omega
    go_enter Try.func50, Try.ntmps50
    go_wp2_with (go_at_call 67; refine HI.out.mono ?_; rintro e w1 ⟨rfl, hb1⟩; (have HB1 := Lib.hid hb1; clear hb1))
    go_loopg [5, 6] l.length (fun gg v5 v6 wr => ∃ (i j : Nat) (cur : List IK), i < j ∧ j ≤ l.length ∧ l.length - j ≤ gg ∧ v5 = .int .i64 i ∧ v6 = .int .i64 j ∧ Aside (DfI t l cur i j) ∧ Aside (wr.ownsRow base 103 2 (.slice (some ⟨g, 0, none⟩) l.length cap) l.length (flatI cur)) ∧ Aside (OffX (· = g) w wr))
    case atStart => exact ⟨i, i + 1, l, Nat.lt_succ_self i, hi, by omega, rfl, by go_num, HD.out, hp_owns_go HO.out HB1.out, .of_below HB1.out⟩
    case round =>
      clear HD HI HB1 hi hi1 hi2
      obtain ⟨i, j, cur, hij, hj, hg, rfl, rfl, HD, HR, HF⟩ := hrel
      have hcl := HD.out.len
      by_cases hlt : j < l.length
      · have hlt2 : (j : Int) < (l.length : Int) := by omega
        have hi2 : (i : Int) < (l.length : Int) := by omega
        have hcj : cur[j]'(by omega) = l[j] := by
          have := HD.out.tl j (Nat.le_refl _)
          rw [List.getElem?_eq_getElem (by omega), List.getElem?_eq_getElem hlt] at this
          exact Option.some.inj this
        obtain ⟨x0, x1⟩ := flatI_get cur j (by omega)
        rw [gI_in (by omega), hcj] at x0 x1
        have y0 := (HR.out.cellAt (j * 2) (by omega)).trans x0
        have y1 := (HR.out.cellAt (j * 2 + 1) (by omega)).trans x1
        clear x0 x1 hcj
        have cX := HF.out.cell HX.out (fun e => HGX.out e.symm)
        have HA := Lib.hid (fun o => add1_any l[j] t X (wr.alloc o) (cell_later (Below.of_al wr o) cX))
        have z0 := HR.out.frozenAt (i * 2)
        have z1 := HR.out.frozenAt (i * 2 + 1)
        obtain ⟨x0, x1⟩ := flatI_get cur i (by omega)
        have HP := Lib.hid (And.intro ((HR.out.cellAt (i * 2) (by omega)).trans x0) ((HR.out.cellAt (i * 2 + 1) (by omega)).trans x1))
        have HIJ := Lib.hid hij
        have hi0 : (0 : Int) ≤ (i : Int) := by omega
        clear cX x0 x1 z0 z1
        cases hp : toP t l[j] with
        | true =>
          have HD2 := Lib.hid (HD.out.drop hlt hp)
          rw [hp] at HA
          clear hp
          generalize l[j] = q at *
          go_wp2_with (go_at_call 51; refine (HA.out _).mono ?_; rintro e w5 ⟨rfl, hb5⟩; (have HB5 := Lib.hid ((Below.of_al wr _).st hb5)); clear hb5)
          go_roundg (l.length - (j + 1))
          case measure => omega
          case rel => exact ⟨i, j + 1, cur, by omega, by omega, Nat.le_refl _, rfl, by go_num, HD2.out, hp_owns_go HR.out HB5.out, HF.out.trans (.of_below HB5.out)⟩
        | false =>
          have HD2 := Lib.hid (HD.out.keep hlt hp)
          rw [hp] at HA
          clear hp
          generalize l[j] = q at *
          go_wp2_with (go_at_call 51; refine (HA.out _).mono ?_; rintro e w5 ⟨rfl, hb5⟩; (have HB5 := Lib.hid ((Below.of_al wr _).st hb5)); (have c5 : w5.cell? ⟨wr.heap.size, 0, none⟩ = some (.int .i64 q.1) := cell_later hb5 (by go_simp)); (have c6 : w5.cell? ⟨wr.heap.size, 1, none⟩ = some (.int .u64 q.2) := cell_later hb5 (by go_simp)); (have p0 := cell_later HB5.out HP.out.1); (have p1 := cell_later HB5.out HP.out.2); (have z0 := (hp_owns_go HR.out HB5.out).frozenAt (i * 2)); (have z1 := (hp_owns_go HR.out HB5.out).frozenAt (i * 2 + 1)); clear hb5)
          have hown : ((w5.setCell ⟨g, i * 2, none⟩ (.int .i64 q.1)).setCell ⟨g, i * 2 + 1, none⟩ (.int .u64 q.2)).ownsRow base 103 2 (.slice (some ⟨g, 0, none⟩) l.length cap) l.length (flatI (cur.set i q)) := by
            have h1 := ((hp_owns_go HR.out HB5.out).stored (i * 2) (.int .i64 q.1)).1
            have h2 := (h1.stored (i * 2 + 1) (.int .u64 q.2)).1
            rw [flatI_set] at h2
            exact h2
          go_roundg (l.length - (j + 1))
          case measure => omega
          case rel => exact ⟨i + 1, j + 1, cur.set i q, by omega, by omega, Nat.le_refl _, by go_num, by go_num, HD2.out, hown, ((HF.out.trans (.of_below HB5.out)).trans (.set _ rfl)).trans (.set _ rfl)⟩
      · obtain rfl : j = l.length := by omega
        obtain ⟨vs, hvs, hclr⟩ := run_clear2 (P := Try.prog) wr 97 103 _ Try.underlying97 zero_arc rfl (fun u hu => hp_onet 0 0 u hu) g (i * 2) (l.length - i) (cap - i) (by omega)
          (fun k hk => by rw [HR.out.cellAt (i * 2 + k) (by omega), List.getElem?_eq_getElem (by rw [flatI_len]; omega)]; rfl) (fun k hk => HR.out.frozenAt _)
        obtain ⟨ys, ho, hys, _, hof⟩ := owns_setCells vs (i * 2) wr _ HR.out (by rw [flatI_len]; omega)
        have hcut := owns_cut ho (Nat.le_of_lt hij)
        have hfl : (l.filter (fun a => !toP t a)).length = i := by rw [← HD.out.done, List.length_take]; omega
        have htk : ys.take (i * 2) = flatI (l.filter (fun a => !toP t a)) := by rw [hys, flatI_take, HD.out.done]
        rw [htk] at hcut
        have HCUT := Lib.hid hcut
        have HOF := Lib.hid (HF.out.trans hof)
        have HFL := Lib.hid hfl
        have hcap := owns_capH HR.out
        have hi0 : (0 : Int) ≤ (i : Int) := by omega
        clear ho hys hof hcut hfl htk hvs
        go_wp2
        go_ret
        rw [HFL.out]
        exact ⟨rfl, HCUT.out, HOF.out.mono (fun k e => by rw [e]; rfl)⟩
  · have hno : ∀ k (h : k < l.length), toP t l[k] = false := by
      have : ∀ n k, k < n → ∀ (h : k < l.length), toP t l[k] = false := by
        intro n
        induction n with
        | zero => intro k hk; omega
        | succ n ih =>
          intro k hk h
          cases hp : toP t l[k] with
          | false => rfl
          | true => exact absurd ⟨k, h, hp, fun k' h' => ih k' (by omega) (by omega)⟩ hex
      exact fun k h => this (k + 1) k (by omega) h
    rw [idxP_no hno] at HI
    have hf : l.filter (fun a => !toP t a) = l := by
      rw [List.filter_eq_self]
      intro a ha
      obtain ⟨k, hk, rfl⟩ := List.mem_iff_getElem.1 ha
      rw [hno k hk]
      rfl
    rw [hf]
    clear hf hno hex h hc hx hX
    go_enter Try.func50, Try.ntmps50
    go_wp2_with (go_at_call 67; refine HI.out.mono ?_; rintro e w1 ⟨rfl, hb1⟩)
    go_ret
    exact ⟨rfl, hp_owns_go HO.out hb1, .of_below hb1⟩

end Go.Proofs.Ytkdomobedfhhgaa
