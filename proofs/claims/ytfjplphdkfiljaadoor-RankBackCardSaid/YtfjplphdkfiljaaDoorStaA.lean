/-
  Walk of the library's stable sort.
  The stable sort by blocks, in plain Lean.
-/
import Derived.Test.YtfjplphdkfiljaaDoorProg
import Derived.Test.YtfjplphdkfiljaaDoorSymC
import Derived.Test.YtfjplphdkfiljaaDoorSymSpec
namespace Go.Proofs.YtfjplphdkfiljaaDoor

theorem Crs.mono {a m b a' b' : Nat} {l : List Int} (h : Crs a m b l) (h1 : a ≤ a') (h2 : b' ≤ b) : Crs a' m b' l := fun i j x y p q r t hx hy => h i j x y (by omega) q r (by omega) hx hy
theorem Crs.seg {a b m N : Nat} {c c' : List Int} (h : Crs 0 m N c) (g : Seg a b c c') (hm : m ≤ a ∨ b ≤ m) (hb : b ≤ N) : Crs 0 m N c' := by
  intro i j x y p q r t hx hy
  rcases hm with hm | hm
  · rw [g.out i (.inl (by omega))] at hx
    by_cases hj : a ≤ j ∧ j < b
    · exact g.pres (fun y => x < y) (fun k y k1 k2 hy => h i k x y p q (by omega) (by omega) hx hy) j y hj.1 hj.2 hy
    · rw [g.out j (by omega)] at hy
      exact h i j x y p q r t hx hy
  · rw [g.out j (.inr (by omega))] at hy
    by_cases hi : a ≤ i ∧ i < b
    · exact g.pres (fun x => x < y) (fun k x k1 k2 hx => h k j x y (Nat.zero_le _) (by omega) r t hx hy) i x hi.1 hi.2 hx
    · rw [g.out i (by omega)] at hx
      exact h i j x y p q r t hx hy
theorem Srt.seg {key : Int → Int} {a b u v : Nat} {c c' : List Int} (h : Srt key u v c) (g : Seg a b c c') (hd : v ≤ a ∨ b ≤ u) : Srt key u v c' := h.congr (fun k _ _ => g.out k (by omega))
theorem Srt.none {key : Int → Int} {a b : Nat} {l : List Int} (h : b ≤ a) : Srt key a b l := fun i j x y p q r hx hy => absurd (show a < b by omega) (by omega)

/-- blocks of bs are sorted, and no number lies beyond a cut -/
def Blk (key : Int → Int) (bs N : Nat) (c : List Int) : Prop := (∀ p, Crs 0 (bs * p) N c) ∧ (∀ p, Srt key (bs * p) (min (bs * p + bs) N) c)
/-- the first blocks by insertion, as far as q -/
def Blk1 (key : Int → Int) (bs N q : Nat) (l c : List Int) : Prop := bs * q ≤ N ∧ (∀ p, Crs 0 (bs * p) N c) ∧ (∀ p, p < q → Srt key (bs * p) (min (bs * p + bs) N) c) ∧ (∀ k, bs * q ≤ k → c[k]? = l[k]?)
/-- pairs of blocks are merged as far as q -/
def Blk2 (key : Int → Int) (bs N q : Nat) (c : List Int) : Prop := 2 * bs * q ≤ N ∧ (∀ p, Crs 0 (2 * bs * p) N c) ∧ (∀ p, 2 * q ≤ p → Crs 0 (bs * p) N c) ∧ (∀ p, p < q → Srt key (2 * bs * p) (min (2 * bs * p + 2 * bs) N) c) ∧
  (∀ p, 2 * q ≤ p → Srt key (bs * p) (min (bs * p + bs) N) c)

theorem Blk1.start {key : Int → Int} {bs N : Nat} {l : List Int} (h : Asc 0 N l) : Blk1 key bs N 0 l l :=
  ⟨by rw [Nat.mul_zero]; exact Nat.zero_le _, fun p i j x y _ q r t hx hy => h i j x y (Nat.zero_le _) (by omega) t hx hy, fun p hp => by omega, fun _ _ => rfl⟩
theorem Blk1.asc {key : Int → Int} {bs N q b : Nat} {l c : List Int} (h : Blk1 key bs N q l c) (hl : Asc 0 N l) (hb : b ≤ N) : Asc (bs * q) b c := fun i j x y p r t hx hy => by
  rw [h.2.2.2 i p] at hx
  rw [h.2.2.2 j (by omega)] at hy
  exact hl i j x y (Nat.zero_le _) r (by omega) hx hy
theorem Blk1.step {key : Int → Int} {bs N q : Nat} {l c c' : List Int} (h : Blk1 key bs N q l c) (hb : bs * q + bs ≤ N) (g : Seg (bs * q) (bs * q + bs) c c') (s : Srt key (bs * q) (bs * q + bs) c') : Blk1 key bs N (q + 1) l c' := by
  obtain ⟨h1, h2, h3, h4⟩ := h
  have e : bs * (q + 1) = bs * q + bs := Nat.mul_succ _ _
  have cut : ∀ p, bs * p ≤ bs * q ∨ bs * q + bs ≤ bs * p := fun p => by
    by_cases hp : p ≤ q
    · exact .inl (Nat.mul_le_mul_left _ hp)
    · exact .inr (by rw [← e]; exact Nat.mul_le_mul_left _ (by omega))
  refine ⟨by omega, fun p => (h2 p).seg g (cut p) hb, fun p hp => ?_, fun k hk => by rw [g.out k (.inr (by omega))]; exact h4 k (by omega)⟩
  by_cases hpq : p = q
  · subst hpq
    rw [Nat.min_eq_left hb]
    exact s
  · have e2 : bs * (p + 1) = bs * p + bs := Nat.mul_succ _ _
    have := Nat.mul_le_mul_left bs (show p + 1 ≤ q by omega)
    exact (h3 p (by omega)).seg g (.inl (by omega))
theorem Blk1.stop {key : Int → Int} {bs N q : Nat} {l c c' : List Int} (h : Blk1 key bs N q l c) (hb : N < bs * q + bs) (g : Seg (bs * q) N c c') (s : Srt key (bs * q) N c') : Blk key bs N c' := by
  obtain ⟨h1, h2, h3, h4⟩ := h
  have e : bs * (q + 1) = bs * q + bs := Nat.mul_succ _ _
  have cut : ∀ p, bs * p ≤ bs * q ∨ N ≤ bs * p := fun p => by
    by_cases hp : p ≤ q
    · exact .inl (Nat.mul_le_mul_left _ hp)
    · have := Nat.mul_le_mul_left bs (show q + 1 ≤ p by omega)
      exact .inr (by omega)
  refine ⟨fun p => (h2 p).seg g (cut p) (Nat.le_refl _), fun p => ?_⟩
  by_cases hpq : p = q
  · subst hpq
    rw [Nat.min_eq_right (by omega)]
    exact s
  · by_cases hp : p < q
    · have e2 : bs * (p + 1) = bs * p + bs := Nat.mul_succ _ _
      have := Nat.mul_le_mul_left bs (show p + 1 ≤ q by omega)
      exact (h3 p hp).seg g (.inl (by omega))
    · have := Nat.mul_le_mul_left bs (show q + 1 ≤ p by omega)
      exact .none (by omega)

theorem two_mul_bs (bs q : Nat) : bs * (2 * q) = 2 * bs * q := by rw [← Nat.mul_assoc, Nat.mul_comm bs 2]
theorem Blk2.start {key : Int → Int} {bs N : Nat} {c : List Int} (h : Blk key bs N c) : Blk2 key bs N 0 c :=
  ⟨by rw [Nat.mul_zero]; exact Nat.zero_le _, fun p => by rw [← two_mul_bs]; exact h.1 (2 * p), fun p _ => h.1 p, fun p hp => by omega, fun p _ => h.2 p⟩
/-- what a merge wants -/
theorem Blk2.pre {key : Int → Int} {bs N q b : Nat} {c : List Int} (h : Blk2 key bs N q c) (hm : 2 * bs * q + bs < b) (hb : b ≤ 2 * bs * q + 2 * bs) (hbN : b ≤ N) :
    Srt key (2 * bs * q) (2 * bs * q + bs) c ∧ Srt key (2 * bs * q + bs) b c ∧ Crs (2 * bs * q) (2 * bs * q + bs) b c := by
  obtain ⟨h1, h2, h3, h4, h5⟩ := h
  have e0 := two_mul_bs bs q
  have e1 : bs * (2 * q + 1) = 2 * bs * q + bs := by rw [Nat.mul_succ, e0]
  have g1 := h5 (2 * q) (Nat.le_refl _)
  have g2 := h5 (2 * q + 1) (by omega)
  have g3 := h3 (2 * q + 1) (by omega)
  rw [e0] at g1
  rw [e1] at g2 g3
  exact ⟨g1.mono (Nat.le_refl _) (by omega), g2.mono (Nat.le_refl _) (by omega), g3.mono (Nat.zero_le _) hbN⟩
theorem Blk2.step {key : Int → Int} {bs N q : Nat} {c c' : List Int} (h : Blk2 key bs N q c) (hb : 2 * bs * q + 2 * bs ≤ N) (g : Seg (2 * bs * q) (2 * bs * q + 2 * bs) c c') (s : Srt key (2 * bs * q) (2 * bs * q + 2 * bs) c') : Blk2 key bs N (q + 1) c' := by
  obtain ⟨h1, h2, h3, h4, h5⟩ := h
  have e : 2 * bs * (q + 1) = 2 * bs * q + 2 * bs := Nat.mul_succ _ _
  have e0 := two_mul_bs bs (q + 1)
  refine ⟨by omega, fun p => (h2 p).seg g ?_ hb, fun p hp => ?_, fun p hp => ?_, fun p hp => ?_⟩
  · by_cases hp : p ≤ q
    · exact .inl (Nat.mul_le_mul_left _ hp)
    · exact .inr (by rw [← e]; exact Nat.mul_le_mul_left _ (by omega))
  · have := Nat.mul_le_mul_left bs hp
    exact (h3 p (by omega)).seg g (.inr (by omega)) hb
  · by_cases hpq : p = q
    · subst hpq
      rw [Nat.min_eq_left hb]
      exact s
    · have e2 : 2 * bs * (p + 1) = 2 * bs * p + 2 * bs := Nat.mul_succ _ _
      have := Nat.mul_le_mul_left (2 * bs) (show p + 1 ≤ q by omega)
      exact (h4 p (by omega)).seg g (.inl (by omega))
  · have := Nat.mul_le_mul_left bs hp
    exact (h5 p (by omega)).seg g (.inr (by omega))
theorem Blk2.stop {key : Int → Int} {bs N q : Nat} {c c' : List Int} (h : Blk2 key bs N q c) (hb : N < 2 * bs * q + 2 * bs) (g : Seg (2 * bs * q) N c c') (s : Srt key (2 * bs * q) N c') : Blk key (2 * bs) N c' := by
  obtain ⟨h1, h2, h3, h4, h5⟩ := h
  have e : 2 * bs * (q + 1) = 2 * bs * q + 2 * bs := Nat.mul_succ _ _
  refine ⟨fun p => (h2 p).seg g ?_ (Nat.le_refl _), fun p => ?_⟩
  · by_cases hp : p ≤ q
    · exact .inl (Nat.mul_le_mul_left _ hp)
    · have := Nat.mul_le_mul_left (2 * bs) (show q + 1 ≤ p by omega)
      exact .inr (by omega)
  · by_cases hpq : p = q
    · subst hpq
      rw [Nat.min_eq_right (by omega)]
      exact s
    · by_cases hp : p < q
      · have e2 : 2 * bs * (p + 1) = 2 * bs * p + 2 * bs := Nat.mul_succ _ _
        have := Nat.mul_le_mul_left (2 * bs) (show p + 1 ≤ q by omega)
        exact (h4 p hp).seg g (.inl (by omega))
      · have := Nat.mul_le_mul_left (2 * bs) (show q + 1 ≤ p by omega)
        exact .none (by omega)
/-- no second block is left -/
theorem Blk2.last {key : Int → Int} {bs N q : Nat} {c : List Int} (h : Blk2 key bs N q c) (hb : N ≤ 2 * bs * q + bs) : Srt key (2 * bs * q) N c := by
  have := h.2.2.2.2 (2 * q) (Nat.le_refl _)
  rw [two_mul_bs, Nat.min_eq_right hb] at this
  exact this
theorem Blk.all {key : Int → Int} {bs N : Nat} {c : List Int} (h : Blk key bs N c) (hb : N ≤ bs) : Srt key 0 N c := by
  have := h.2 0
  rw [Nat.mul_zero, Nat.zero_add, Nat.min_eq_right hb] at this
  exact this

end Go.Proofs.YtfjplphdkfiljaaDoor

namespace Go.Proofs.YtfjplphdkfiljaaDoor
open Go.Proofs Go.RowKit Go.Shelf

theorem Blk1.step' {key : Int → Int} {A N q : Nat} {l c c' : List Int} (hA : A = 20 * q) (h : Blk1 key 20 N q l c) (hb : A + 20 ≤ N) (g : Seg A (A + 20) c c') (s : Srt key A (A + 20) c') : Blk1 key 20 N (q + 1) l c' := by subst hA; exact h.step hb g s
theorem Blk1.stop' {key : Int → Int} {A N q : Nat} {l c c' : List Int} (hA : A = 20 * q) (h : Blk1 key 20 N q l c) (hb : N < A + 20) (g : Seg A N c c') (s : Srt key A N c') : Blk key 20 N c' := by subst hA; exact h.stop hb g s
theorem Blk1.asc' {key : Int → Int} {A N q b : Nat} {l c : List Int} (hA : A = 20 * q) (h : Blk1 key 20 N q l c) (hl : Asc 0 N l) (hb : b ≤ N) : Asc A b c := by subst hA; exact h.asc hl hb
theorem Blk2.pre' {key : Int → Int} {A bs N q b : Nat} {c : List Int} (hA : A = 2 * bs * q) (h : Blk2 key bs N q c) (hm : A + bs < b) (hb : b ≤ A + 2 * bs) (hbN : b ≤ N) : Srt key A (A + bs) c ∧ Srt key (A + bs) b c ∧ Crs A (A + bs) b c := by subst hA; exact h.pre hm hb hbN
theorem Blk2.step' {key : Int → Int} {A bs N q : Nat} {c c' : List Int} (hA : A = 2 * bs * q) (h : Blk2 key bs N q c) (hb : A + 2 * bs ≤ N) (g : Seg A (A + 2 * bs) c c') (s : Srt key A (A + 2 * bs) c') : Blk2 key bs N (q + 1) c' := by subst hA; exact h.step hb g s
theorem Blk2.stop' {key : Int → Int} {A bs N q : Nat} {c c' : List Int} (hA : A = 2 * bs * q) (h : Blk2 key bs N q c) (hb : N < A + 2 * bs) (g : Seg A N c c') (s : Srt key A N c') : Blk key (2 * bs) N c' := by subst hA; exact h.stop hb g s
theorem Blk2.last' {key : Int → Int} {A bs N q : Nat} {c : List Int} (hA : A = 2 * bs * q) (h : Blk2 key bs N q c) (hb : N ≤ A + bs) : Srt key A N c := by subst hA; exact h.last hb

theorem insSort_none (fv : Value) (s : Value) (a : Nat) (w : World) (hN : a ≤ 1000000) :
    Calls Tryd.prog 150 #[s, .int .i64 a, .int .i64 a, fv] w (fun e w' => (∃ v, e = .returned v) ∧ w' = w) := by
  have h1 : ¬ (a : Int) + 1 < (a : Int) := by omega
  go_enter Tryd.func150, Tryd.ntmps150
  go_wp2
  refine wp_loop_rounds 1 ?_
  rw [rounds_succ]
  go_wp2
  go_end0
  exact ⟨⟨_, rfl⟩, rfl⟩

/-- what the whole sort has come to -/
def BlkPost (key : Int → Int) (base g N bs : Nat) (l : List Int) (w0 : World) (e : Ending) (w' : World) : Prop :=
  (∃ v, e = .returned v) ∧ ∃ c, Aside (Blk key bs N c) ∧ Aside (c.Perm l) ∧ Aside (RowI w' base g N c) ∧ Aside (Below base w0 w')

theorem Seg.all {N : Nat} {l c : List Int} (hl : l.length = N) (hp : c.Perm l) : Seg 0 N l c :=
  ⟨hp.length_eq, fun k hk => by rw [List.getElem?_eq_none (by rw [hp.length_eq]; omega), List.getElem?_eq_none (by omega)], hp, fun P h k x _ _ hx => by
    obtain ⟨i, hi⟩ := List.mem_iff_getElem?.1 (hp.subset (List.mem_of_getElem? hx))
    exact h i x (Nat.zero_le _) (by have := (List.getElem?_eq_some_iff.1 hi).1; omega) hi⟩

set_option maxRecDepth 100000 in
set_option maxHeartbeats 8000000 in
theorem stable_any (key : Int → Int) (M F : Nat) (cb : Array Value) (base g N : Nat) (l : List Int) (w0 w : World) (hen : Enters Tryd.prog F) (hcmp : CmpOn F cb key M base w0) (hbw : Below base w0 w) (hrow : RowI w base g N l)
    (hM : ∀ x ∈ l, 0 ≤ x ∧ x < (M : Int)) (hN : N ≤ 1000000) (hasc : Asc 0 N l) :
    Calls Tryd.prog 132 #[.slice (some ⟨g, 0, none⟩) N N, .int .i64 N, .func (.func F) #[] cb] w (SortPost key base g N 0 N l w0) := by
  have HM := Lib.hid hM
  have HASC := Lib.hid hasc
  have HB0 := Lib.hid hbw
  have HR0 := Lib.hid hrow
  have HL := Lib.hid hrow.len
  have HINS := Lib.hid (fun a b c W => insSort_any key M F cb base g N a b c w0 W hen hcmp)
  have HSYM := Lib.hid (sym_any key M F cb base g N w0 hen hcmp hN)
  clear hcmp hM hbw hrow hasc
  go_enter Tryd.func132, Tryd.ntmps132
  go_wp2
  go_loopg [7, 8] N (fun gg v7 v8 wr => ∃ (q A : Nat) (c : List Int), A = 20 * q ∧ A ≤ N ∧ N - A ≤ gg ∧ v7 = .int .i64 A ∧ v8 = .int .i64 ((A : Int) + 20) ∧ Aside (Blk1 key 20 N q l c) ∧ Aside (c.Perm l) ∧ Aside (RowI wr base g N c) ∧ Aside (Below base w0 wr))
  case atStart => exact ⟨0, 0, l, rfl, Nat.zero_le _, by omega, rfl, by simp, .start HASC.out, List.Perm.refl _, HR0.out, HB0.out⟩
  case round =>
    clear HB0 HR0
    obtain ⟨q, A, c, hA, hAN, hg, rfl, rfl, HBK, HP, HR, HB⟩ := hrel
    have HA := Lib.hid hA
    clear hA
    by_cases h20 : A + 20 ≤ N
    · have h20i : (A : Int) + 20 ≤ (N : Int) := by omega
      have hb : ((A + 20 : Nat) : Int) = (A : Int) + 20 := by omega
      have HI := Lib.hid (HINS.out A (A + 20) c wr HB.out HR.out (bound_perm HM.out HP.out) (by omega) h20 hN (HBK.out.asc' HA.out HASC.out h20))
      rw [hb] at HI
      clear hb
      go_wp2_with (go_at_call 150; refine HI.out.mono ?_; rintro e w1 ⟨⟨v, rfl⟩, c1, HS, HT, HR1, HB1⟩)
      go_roundg (N - (A + 20))
      case measure => omega
      case rel => exact ⟨q + 1, A + 20, c1, by have := HA.out; omega, h20, Nat.le_refl _, by go_num, by go_num, HBK.out.step' HA.out h20 HS.out HT.out, HS.out.perm.trans HP.out, HR1.out, HB1.out⟩
    · have h20i : ¬ (A : Int) + 20 ≤ (N : Int) := by omega
      have HI : RowKit.Hid (Calls Tryd.prog 150 #[.slice (some ⟨g, 0, none⟩) N N, .int .i64 A, .int .i64 N, .func (.func F) #[] cb] wr (BlkPost key base g N 20 l w0)) := by
        refine Lib.hid ?_
        by_cases hlt : A < N
        · refine (HINS.out A N c wr HB.out HR.out (bound_perm HM.out HP.out) hlt (Nat.le_refl _) hN (HBK.out.asc' HA.out HASC.out (Nat.le_refl _))).mono ?_
          rintro e w1 ⟨hv, c1, HS, HT, HR1, HB1⟩
          exact ⟨hv, c1, HBK.out.stop' HA.out (by omega) HS.out HT.out, HS.out.perm.trans HP.out, HR1, HB1⟩
        · obtain rfl : A = N := by omega
          refine (insSort_none _ _ A wr hN).mono ?_
          rintro e w1 ⟨hv, rfl⟩
          exact ⟨hv, c, HBK.out.stop' HA.out (by omega) (Seg.refl _ _ _) (Srt.none (Nat.le_refl _)), HP.out, HR.out, HB.out⟩
      clear HINS HBK HP HR HB
      go_wp2_with (go_at_call 150; refine HI.out.mono ?_; rintro e w1 ⟨⟨v, rfl⟩, c1, HK1, HP1, HR1, HB1⟩)
      clear HI HA
      go_loopg [6] N (fun gg v6 wr => ∃ (bs : Nat) (c : List Int), 0 < bs ∧ bs ≤ 2 * N + 20 ∧ N - bs ≤ gg ∧ v6 = .int .i64 bs ∧ Aside (Blk key bs N c) ∧ Aside (c.Perm l) ∧ Aside (RowI wr base g N c) ∧ Aside (Below base w0 wr))
      case atStart => exact ⟨20, c1, by omega, by omega, by omega, rfl, HK1.out, HP1.out, HR1.out, HB1.out⟩
      case round =>
        clear HK1 HP1 HR1 HB1
        obtain ⟨bs, c, hbs0, hbs1, hg2, rfl, HBK, HP, HR, HB⟩ := hrel
        by_cases hlt : bs < N
        · have hlti : (bs : Int) < (N : Int) := by omega
          have hbs0i : (0 : Int) < (bs : Int) := by omega
          have HB2 := Lib.hid (Blk2.start HBK.out)
          clear HBK
          go_wp2
          go_loopg [7, 8] N (fun gg v7 v8 wr => ∃ (q A : Nat) (c : List Int), Aside (A = 2 * bs * q) ∧ A ≤ N ∧ N - A ≤ gg ∧ v7 = .int .i64 A ∧ v8 = .int .i64 ((A : Int) + 2 * (bs : Int)) ∧ Aside (Blk2 key bs N q c) ∧ Aside (c.Perm l) ∧ Aside (RowI wr base g N c) ∧ Aside (Below base w0 wr))
          case atStart => exact ⟨0, 0, c, (Nat.mul_zero _).symm, Nat.zero_le _, by omega, rfl, by simp, HB2.out, HP.out, HR.out, HB.out⟩
          case round =>
            clear HB2 HP HR HB
            obtain ⟨q, A, c, HA, hAN, hg3, rfl, rfl, HBK, HP, HR, HB⟩ := hrel
            have hmc : ((A + bs : Nat) : Int) = (A : Int) + (bs : Int) := by omega
            by_cases hle : A + 2 * bs ≤ N
            · have hlei : (A : Int) + 2 * (bs : Int) ≤ (N : Int) := by omega
              have hbc : ((A + 2 * bs : Nat) : Int) = (A : Int) + 2 * (bs : Int) := by omega
              have HPRE := Lib.hid (HBK.out.pre' HA.out (show A + bs < A + 2 * bs by omega) (Nat.le_refl _) hle)
              have HI := Lib.hid (HSYM.out N A (A + bs) (A + 2 * bs) c wr (by omega) (by omega) (by omega) hle HB.out HR.out HPRE.out.1 HPRE.out.2.1 HPRE.out.2.2 (bound_perm HM.out HP.out))
              rw [hmc, hbc] at HI
              clear hmc hbc
              go_wp2_with (go_at_call 151; refine HI.out.mono ?_; rintro e w1 ⟨⟨v, rfl⟩, c1, HS, HT, HR1, HB1⟩)
              go_roundg (N - (A + 2 * bs))
              case measure => omega
              case rel => exact ⟨q + 1, A + 2 * bs, c1, (show A + 2 * bs = 2 * bs * (q + 1) by rw [Nat.mul_succ, ← (show A = 2 * bs * q from HA.out)]), hle, Nat.le_refl _, by go_num, by first | go_num | (simp; omega), HBK.out.step' HA.out hle HS.out HT.out, HS.out.perm.trans HP.out, HR1.out, HB1.out⟩
            · have hlei : ¬ (A : Int) + 2 * (bs : Int) ≤ (N : Int) := by omega
              by_cases hml : A + bs < N
              · have hmli : (A : Int) + (bs : Int) < (N : Int) := by omega
                have HPRE := Lib.hid (HBK.out.pre' HA.out hml (by omega) (Nat.le_refl _))
                have HI := Lib.hid (HSYM.out N A (A + bs) N c wr (by omega) (by omega) hml (Nat.le_refl _) HB.out HR.out HPRE.out.1 HPRE.out.2.1 HPRE.out.2.2 (bound_perm HM.out HP.out))
                rw [hmc] at HI
                clear hmc
                go_wp2_with (go_at_call 151; refine HI.out.mono ?_; rintro e w1 ⟨⟨v, rfl⟩, c1, HS, HT, HR1, HB1⟩)
                go_roundg (N - 2 * bs)
                case measure => omega
                case rel => exact ⟨2 * bs, c1, by omega, by omega, Nat.le_refl _, by first | go_num | (simp; omega), HBK.out.stop' HA.out (by omega) HS.out HT.out, HS.out.perm.trans HP.out, HR1.out, HB1.out⟩
              · have hmli : ¬ (A : Int) + (bs : Int) < (N : Int) := by omega
                clear hmc
                go_wp2
                go_roundg (N - 2 * bs)
                case measure => omega
                case rel => exact ⟨2 * bs, c, by omega, by omega, Nat.le_refl _, by first | go_num | (simp; omega), HBK.out.stop' HA.out (by omega) (Seg.refl _ _ _) (HBK.out.last' HA.out (by omega)), HP.out, HR.out, HB.out⟩
        · have hlti : ¬ (bs : Int) < (N : Int) := by omega
          go_wp2
          go_end0
          exact ⟨⟨_, rfl⟩, c, Seg.all HL.out HP.out, HBK.out.all (by omega), HR.out, HB.out⟩

theorem SortStable_any (key : Int → Int) (M F : Nat) (cb : Array Value) (base g N : Nat) (l : List Int) (w0 w : World) (hen : Enters Tryd.prog F) (hcmp : CmpOn F cb key M base w0) (hbw : Below base w0 w) (hrow : RowI w base g N l)
    (hM : ∀ x ∈ l, 0 ≤ x ∧ x < (M : Int)) (hN : N ≤ 1000000) (hasc : Asc 0 N l) :
    Calls Tryd.prog 105 #[.slice (some ⟨g, 0, none⟩) N N, .func (.func F) #[] cb] w (SortPost key base g N 0 N l w0) := by
  have HI := Lib.hid (stable_any key M F cb base g N l w0 w hen hcmp hbw hrow hM hN hasc)
  clear hcmp hbw hrow hM hasc
  go_enter Tryd.func105, Tryd.ntmps105
  go_wp2_with (go_at_call 132; refine HI.out.mono ?_; rintro e w1 ⟨⟨v, rfl⟩, l', HS, HT, HR, HB⟩)
  go_end0
  exact ⟨⟨_, rfl⟩, l', HS, HT, HR, HB⟩

end Go.Proofs.YtfjplphdkfiljaaDoor

