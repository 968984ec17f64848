/-
  Merging two parts of a row by turning what lies in the midst, in plain Lean.
  Merging where one part has one number only, and the search for its place, in plain Lean.
-/
import Derived.Test.YtfjplphdkfiljaaDoorSortSpec
namespace Go.Proofs.YtfjplphdkfiljaaDoor

/-- two stretches of n change places -/
def SwR (a b n : Nat) (l l' : List Int) : Prop :=
  l'.length = l.length ∧ ∀ k : Nat, l'[k]? = if a ≤ k ∧ k < a + n then l[k - a + b]? else if b ≤ k ∧ k < b + n then l[k - b + a]? else l[k]?
/-- what lies from a to m comes behind what lies from m to b -/
def Rot (a m b : Nat) (l l' : List Int) : Prop :=
  l'.length = l.length ∧ ∀ k : Nat, l'[k]? = if a ≤ k ∧ k < a + (b - m) then l[k + (m - a)]? else if a + (b - m) ≤ k ∧ k < b then l[k - (b - m)]? else l[k]?
theorem SwR.zero (a b : Nat) (l : List Int) : SwR a b 0 l l := ⟨rfl, fun k => by rw [if_neg (by omega), if_neg (by omega)]⟩
theorem SwR.step {a b n : Nat} {l c : List Int} (h : SwR a b n l c) (hd : a + (n + 1) ≤ b ∨ b + (n + 1) ≤ a) (ha : a + n < l.length) (hb : b + n < l.length) : SwR a b (n + 1) l (swapL c (a + n) (b + n)) := by
  obtain ⟨h1, h2⟩ := h
  have ea : c[a + n]? = l[a + n]? := by rw [h2, if_neg (by omega), if_neg (by omega)]
  have eb : c[b + n]? = l[b + n]? := by rw [h2, if_neg (by omega), if_neg (by omega)]
  have hx : c[a + n]? = some l[a + n] := by rw [ea]; exact List.getElem?_eq_getElem ha
  have hy : c[b + n]? = some l[b + n] := by rw [eb]; exact List.getElem?_eq_getElem hb
  refine ⟨by rw [swapL_length, h1], fun k => ?_⟩
  rw [swapL_get hx hy]
  by_cases e1 : k = b + n
  · subst e1
    rw [if_pos rfl, if_neg (by omega), if_pos (by omega), show b + n - b + a = a + n by omega, ← hx, ea]
  · rw [if_neg e1]
    by_cases e2 : k = a + n
    · subst e2
      rw [if_pos rfl, if_pos (by omega), show a + n - a + b = b + n by omega, ← hy, eb]
    · rw [if_neg e2, h2]
      by_cases c1 : a ≤ k ∧ k < a + n
      · rw [if_pos c1, if_pos (by omega)]
      · rw [if_neg c1]
        by_cases c2 : b ≤ k ∧ k < b + n
        · rw [if_pos c2, if_neg (by omega), if_pos (by omega)]
        · rw [if_neg c2, if_neg (by omega), if_neg (by omega)]
theorem Rot.great {m i j : Nat} {c c' t : List Int} (hi : i ≤ m) (hij : j < i) (hs : SwR (m - i) m j c c') (hr : Rot (m - (i - j)) m (m + j) c' t) : Rot (m - i) m (m + j) c t := by
  refine ⟨hr.1.trans hs.1, fun k => ?_⟩
  rw [hr.2, hs.2, hs.2, hs.2]
  by_cases a1 : m - i ≤ k ∧ k < m - i + (m + j - m)
  · rw [if_pos a1, if_neg (by omega), if_neg (by omega), if_pos (by omega)]
    congr 1
    omega
  · rw [if_neg a1]
    by_cases a2 : m - i + (m + j - m) ≤ k ∧ k < m + j
    · rw [if_pos a2]
      by_cases a3 : m - (i - j) ≤ k ∧ k < m - (i - j) + (m + j - m)
      · rw [if_pos a3]
        by_cases a4 : k + (m - (m - (i - j))) < m
        · omega
        · rw [if_neg (by omega), if_pos (by omega)]
          congr 1
          omega
      · rw [if_neg a3, if_pos (by omega)]
        rw [if_neg (by omega), if_neg (by omega)]
    · rw [if_neg a2, if_neg (by omega), if_neg (by omega), if_neg (by omega), if_neg (by omega)]
theorem Rot.less {m i j : Nat} {c c' t : List Int} (hi : i ≤ m) (hij : i < j) (hs : SwR (m - i) (m + j - i) i c c') (hr : Rot (m - i) m (m + (j - i)) c' t) : Rot (m - i) m (m + j) c t := by
  refine ⟨hr.1.trans hs.1, fun k => ?_⟩
  rw [hr.2, hs.2, hs.2, hs.2]
  by_cases a1 : m - i ≤ k ∧ k < m - i + (m + j - m)
  · rw [if_pos a1]
    by_cases a2 : m - i ≤ k ∧ k < m - i + (m + (j - i) - m)
    · rw [if_pos a2, if_neg (by omega)]
      by_cases a3 : m + j - i ≤ k + (m - (m - i)) ∧ k + (m - (m - i)) < m + j - i + i
      · omega
      · rw [if_neg a3]
    · rw [if_neg a2]
      by_cases a4 : m - i + (m + (j - i) - m) ≤ k ∧ k < m + (j - i)
      · rw [if_pos a4, if_pos (by omega)]
        congr 1
        omega
      · omega
  · rw [if_neg a1]
    by_cases a2 : m - i + (m + j - m) ≤ k ∧ k < m + j
    · rw [if_pos a2, if_neg (by omega), if_neg (by omega), if_neg (by omega), if_pos (by omega)]
      congr 1
      omega
    · rw [if_neg a2, if_neg (by omega), if_neg (by omega), if_neg (by omega), if_neg (by omega)]
theorem Rot.same {m i : Nat} {c c' : List Int} (hi : i ≤ m) (hs : SwR (m - i) m i c c') : Rot (m - i) m (m + i) c c' := by
  refine ⟨hs.1, fun k => ?_⟩
  rw [hs.2]
  by_cases a1 : m - i ≤ k ∧ k < m - i + i
  · rw [if_pos a1, if_pos (by omega)]
    congr 1
    omega
  · rw [if_neg a1]
    by_cases a2 : m ≤ k ∧ k < m + i
    · rw [if_pos a2, if_neg (by omega), if_pos (by omega)]
      congr 1
      omega
    · rw [if_neg a2, if_neg (by omega), if_neg (by omega)]
theorem Rot.none {a m b : Nat} (l : List Int) (h : a = m ∨ m = b) (hab : a ≤ m ∧ m ≤ b) : Rot a m b l l := by
  refine ⟨rfl, fun k => ?_⟩
  by_cases a1 : a ≤ k ∧ k < a + (b - m)
  · rw [if_pos a1]; congr 1; omega
  · rw [if_neg a1]
    by_cases a2 : a + (b - m) ≤ k ∧ k < b
    · rw [if_pos a2]; congr 1; omega
    · rw [if_neg a2]
theorem Rot.seg {a m b : Nat} {l l' : List Int} (h : Rot a m b l l') (hp : l'.Perm l) (hab : a ≤ m ∧ m ≤ b) : Seg a b l l' := by
  refine ⟨h.1, fun k hk => by rw [h.2, if_neg (by omega), if_neg (by omega)], hp, fun P hP k x k1 k2 hx => ?_⟩
  rw [h.2] at hx
  by_cases a1 : a ≤ k ∧ k < a + (b - m)
  · rw [if_pos a1] at hx
    exact hP _ x (by omega) (by omega) hx
  · rw [if_neg a1, if_pos (by omega)] at hx
    exact hP _ x (by omega) (by omega) hx

/-- all numbers of the left part are less than all of the right part -/
def Crs (a m b : Nat) (l : List Int) : Prop := ∀ i j x y, a ≤ i → i < m → m ≤ j → j < b → l[i]? = some x → l[j]? = some y → x < y
theorem Srt.mono {key : Int → Int} {a b a' b' : Nat} {l : List Int} (h : Srt key a b l) (h1 : a ≤ a') (h2 : b' ≤ b) : Srt key a' b' l := fun i j x y p q r hx hy => h i j x y (by omega) q (by omega) hx hy
theorem Srt.congr {key : Int → Int} {a b : Nat} {l l' : List Int} (h : Srt key a b l) (he : ∀ k, a ≤ k → k < b → l'[k]? = l[k]?) : Srt key a b l' := fun i j x y p q r hx hy => by
  rw [he i p (by omega)] at hx
  rw [he j (by omega) r] at hy
  exact h i j x y p q r hx hy
theorem Srt.key_le {key : Int → Int} {a b : Nat} {l : List Int} (h : Srt key a b l) {i j : Nat} {x y : Int} (h1 : a ≤ i) (h2 : i ≤ j) (h3 : j < b) (hx : l[i]? = some x) (hy : l[j]? = some y) : key x ≤ key y := by
  by_cases e : i = j
  · subst e
    rw [hx] at hy
    cases hy
    exact Int.le_refl _
  · have := h i j x y h1 (by omega) h3 hx hy
    unfold Rk at this
    omega

/-- where the search in the midst has come to: below s the left ones are not behind, from r on they are -/
def MidP (key : Int → Int) (lo hi p s r : Nat) (l : List Int) : Prop :=
  lo ≤ s ∧ s ≤ r ∧ r ≤ hi ∧ (∀ c x y, lo ≤ c → c < s → l[c]? = some x → l[p - c]? = some y → ¬ key y < key x) ∧ (∀ c x y, r ≤ c → c < hi → l[c]? = some x → l[p - c]? = some y → key y < key x)

/-- the whole of a merge: what lies at a .. start and m .. end comes below mid, the rest above -/
theorem merge_mid {key : Int → Int} {a m b mid lo up s : Nat} {l l1 l2 l3 : List Int} (hab : a < m ∧ m < b) (hmid : 2 * mid ≤ a + b ∧ a + b ≤ 2 * mid + 1) (hb : b ≤ l.length) (h1 : Srt key a m l) (h2 : Srt key m b l) (hc : Crs a m b l)
    (hlo : (mid < m ∧ lo = mid + m - b ∧ up = mid) ∨ (m ≤ mid ∧ lo = a ∧ up = m)) (hp : MidP key lo up (mid + m - 1) s s l)
    (hr : Rot s m (mid + m - s) l l1) (hq : l1.Perm l) (g2 : Seg a mid l1 l2) (s2 : Srt key a mid l2) (g3 : Seg mid b l2 l3) (s3 : Srt key mid b l3) : Seg a b l l3 ∧ Srt key a b l3 := by
  obtain ⟨p1, p2, p3, p4, p5⟩ := hp
  have hs1 : a ≤ s ∧ s ≤ m ∧ s ≤ mid := by omega
  have hs2 : m ≤ mid + m - s ∧ mid + m - s ≤ b := by omega
  have hseg1 := hr.seg hq ⟨hs1.2.1, hs2.1⟩
  refine ⟨((hseg1.mono hs1.1 hs2.2).trans (g2.mono (Nat.le_refl _) (by omega))).trans (g3.mono (by omega) (Nat.le_refl _)), ?_⟩
  -- what lies below mid, and what above, as it lay in l
  have low : ∀ k x, a ≤ k → k < mid → l1[k]? = some x → ∃ i, l[i]? = some x ∧ ((a ≤ i ∧ i < s) ∨ (m ≤ i ∧ i < mid + m - s)) := by
    intro k x k1 k2 hx
    rw [hr.2] at hx
    by_cases c1 : s ≤ k ∧ k < s + (mid + m - s - m)
    · rw [if_pos c1] at hx
      exact ⟨_, hx, .inr (by omega)⟩
    · rw [if_neg c1, if_neg (by omega)] at hx
      exact ⟨_, hx, .inl (by omega)⟩
  have high : ∀ k x, mid ≤ k → k < b → l1[k]? = some x → ∃ i, l[i]? = some x ∧ ((s ≤ i ∧ i < m) ∨ (mid + m - s ≤ i ∧ i < b)) := by
    intro k x k1 k2 hx
    rw [hr.2] at hx
    by_cases c1 : s + (mid + m - s - m) ≤ k ∧ k < mid + m - s
    · rw [if_neg (by omega), if_pos c1] at hx
      exact ⟨_, hx, .inl (by omega)⟩
    · rw [if_neg (by omega), if_neg c1] at hx
      exact ⟨_, hx, .inr (by omega)⟩
  have cross : ∀ i j x y, l[i]? = some x → l[j]? = some y → ((a ≤ i ∧ i < s) ∨ (m ≤ i ∧ i < mid + m - s)) → ((s ≤ j ∧ j < m) ∨ (mid + m - s ≤ j ∧ j < b)) → Rk key x y := by
    intro i j x y hx hy hi hj
    rcases hi with hi | hi
    · rcases hj with hj | hj
      · exact h1 i j x y hi.1 (by omega) hj.2 hx hy
      · have hlt := hc i j x y hi.1 (by omega) (by omega) hj.2 hx hy
        -- the last left one that stays below, and the first right one that stays above
        have hs0 : lo < s := by omega
        obtain ⟨u, hu⟩ : ∃ u, l[s - 1]? = some u := ⟨l[s - 1], List.getElem?_eq_getElem (by omega)⟩
        obtain ⟨v, hv⟩ : ∃ v, l[mid + m - s]? = some v := ⟨l[mid + m - s], List.getElem?_eq_getElem (by omega)⟩
        have h3 := p4 (s - 1) u v (by omega) (by omega) hu (by rw [show mid + m - 1 - (s - 1) = mid + m - s by omega]; exact hv)
        have h4 := h1.key_le hi.1 (show i ≤ s - 1 by omega) (by omega) hx hu
        have h5 := h2.key_le hs2.1 hj.1 hj.2 hv hy
        unfold Rk
        omega
    · rcases hj with hj | hj
      · have hs0 : s < m := by omega
        obtain ⟨u, hu⟩ : ∃ u, l[s]? = some u := ⟨l[s], List.getElem?_eq_getElem (by omega)⟩
        obtain ⟨v, hv⟩ : ∃ v, l[mid + m - 1 - s]? = some v := ⟨l[mid + m - 1 - s], List.getElem?_eq_getElem (by omega)⟩
        have h3 := p5 s u v (Nat.le_refl _) (by omega) hu hv
        have h4 := h1.key_le hs1.1 hj.1 hj.2 hu hy
        have h5 := h2.key_le hi.1 (show i ≤ mid + m - 1 - s by omega) (by omega) hx hv
        exact .inl (by omega)
      · exact h2 i j x y hi.1 (by omega) hj.2 hx hy
  intro i j x y q1 q2 q3 hx hy
  by_cases c1 : j < mid
  · exact s2 i j x y q1 q2 c1 (by rw [← g3.out i (.inl (by omega))]; exact hx) (by rw [← g3.out j (.inl c1)]; exact hy)
  · by_cases c2 : mid ≤ i
    · exact s3 i j x y c2 q2 q3 hx hy
    · rw [g3.out i (.inl (by omega))] at hx
      obtain ⟨i0, hi0, hi1⟩ : ∃ i0, l[i0]? = some x ∧ ((a ≤ i0 ∧ i0 < s) ∨ (m ≤ i0 ∧ i0 < mid + m - s)) :=
        g2.pres (fun x => ∃ i, l[i]? = some x ∧ ((a ≤ i ∧ i < s) ∨ (m ≤ i ∧ i < mid + m - s))) low i x q1 (by omega) hx
      obtain ⟨j0, hj0, hj1⟩ : ∃ j0, l[j0]? = some y ∧ ((s ≤ j0 ∧ j0 < m) ∨ (mid + m - s ≤ j0 ∧ j0 < b)) :=
        g3.pres (fun x => ∃ i, l[i]? = some x ∧ ((s ≤ i ∧ i < m) ∨ (mid + m - s ≤ i ∧ i < b))) (fun k x k1 k2 hx => by
          rw [g2.out k (.inr k1)] at hx
          exact high k x k1 k2 hx) j y (by omega) q3 hy
      exact cross i0 j0 x y hi0 hj0 hi1 hj1

end Go.Proofs.YtfjplphdkfiljaaDoor

namespace Go.Proofs.YtfjplphdkfiljaaDoor

/-- a search: up to i it holds, from j on it does not -/
def BinP (Y : Nat → Prop) (lo hi i j : Nat) : Prop := lo ≤ i ∧ i ≤ j ∧ j ≤ hi ∧ (∀ h, lo ≤ h → h < i → Y h) ∧ (∀ h, j ≤ h → h < hi → ¬ Y h)
theorem BinP.start {Y : Nat → Prop} {lo hi : Nat} (h : lo ≤ hi) : BinP Y lo hi lo hi := ⟨Nat.le_refl _, h, Nat.le_refl _, fun _ _ _ => by omega, fun _ _ _ => by omega⟩
theorem BinP.yes {Y : Nat → Prop} {lo hi i j h : Nat} (hb : BinP Y lo hi i j) (hm : ∀ a b, lo ≤ a → a ≤ b → b < hi → Y b → Y a) (h1 : i ≤ h) (h2 : h < j) (hy : Y h) : BinP Y lo hi (h + 1) j := by
  obtain ⟨a, b, c, d, e⟩ := hb
  exact ⟨by omega, by omega, c, fun q q1 q2 => hm q h q1 (by omega) (by omega) hy, e⟩
theorem BinP.no {Y : Nat → Prop} {lo hi i j h : Nat} (hb : BinP Y lo hi i j) (hm : ∀ a b, lo ≤ a → a ≤ b → b < hi → Y b → Y a) (h1 : i ≤ h) (h2 : h < j) (hy : ¬ Y h) : BinP Y lo hi i h := by
  obtain ⟨a, b, c, d, e⟩ := hb
  exact ⟨a, h1, by omega, d, fun q q1 q2 hq => hy (hm h q (by omega) q1 q2 hq)⟩

/-- the first one is on its way up to place i -/
def UpP (key : Int → Int) (a b k i : Nat) (x : Int) (l c : List Int) : Prop :=
  a ≤ k ∧ k + 1 ≤ i ∧ i ≤ b ∧ Seg a b l c ∧ c[k]? = some x ∧ (∀ p q u v, a ≤ p → p < q → q < b → p ≠ k → q ≠ k → c[p]? = some u → c[q]? = some v → Rk key u v) ∧
    (∀ q u, a ≤ q → q < k → c[q]? = some u → Rk key u x) ∧ (∀ q u, k < q → q < i → c[q]? = some u → key u < key x) ∧ (∀ q u, i ≤ q → q < b → c[q]? = some u → Rk key x u)
theorem UpP.start {key : Int → Int} {a b i : Nat} {x : Int} {l : List Int} (hx : l[a]? = some x) (hs : Srt key (a + 1) b l) (hc : Crs a (a + 1) b l) (hab : a + 1 < b) (hb : BinP (fun h => key (l.getD h 0) < key x) (a + 1) b i i) : UpP key a b a i x l l := by
  obtain ⟨h1, h2, h3, h4, h5⟩ := hb
  refine ⟨Nat.le_refl _, h1, h3, Seg.refl _ _ _, hx, fun p q u v p1 p2 p3 p4 p5 hu hv => hs p q u v (by omega) p2 p3 hu hv, fun q u q1 q2 _ => by omega, fun q u q1 q2 hu => ?_, fun q u q1 q2 hu => ?_⟩
  · have := h4 q (by omega) q2
    simp only [getD_of hu] at this
    exact this
  · have h6 := h5 q q1 q2
    simp only [getD_of hu] at h6
    have h7 := hc a q x u (Nat.le_refl _) (by omega) (by omega) q2 hx hu
    unfold Rk
    omega
theorem UpP.step {key : Int → Int} {a b k i : Nat} {x : Int} {l c : List Int} (h : UpP key a b k i x l c) (hk : k + 1 < i) (hlen : b ≤ c.length) : UpP key a b (k + 1) i x l (swapL c k (k + 1)) := by
  obtain ⟨h1, h2, h3, h4, h5, h6, h7, h8, h9⟩ := h
  obtain ⟨y, hy⟩ : ∃ y, c[k + 1]? = some y := ⟨c[k + 1], List.getElem?_eq_getElem (by omega)⟩
  have g := swapL_get h5 hy
  have hyx := h8 (k + 1) y (by omega) hk hy
  refine ⟨by omega, by omega, h3, h4.trans (Seg.swap ⟨h1, by omega⟩ ⟨by omega, by omega⟩ hlen), by rw [g, if_pos rfl], ?_, ?_, ?_, ?_⟩
  · intro p q u v p1 p2 p3 p4 p5 hu hv
    rw [g, if_neg p4] at hu
    rw [g, if_neg p5] at hv
    by_cases e1 : p = k
    · rw [if_pos e1] at hu
      rw [if_neg (by omega)] at hv
      cases hu
      exact h6 (k + 1) q y v (by omega) (by omega) p3 (by omega) (by omega) hy hv
    · rw [if_neg e1] at hu
      by_cases e2 : q = k
      · rw [if_pos e2] at hv
        cases hv
        exact h6 p (k + 1) u y p1 (by omega) (by omega) e1 (by omega) hu hy
      · rw [if_neg e2] at hv
        exact h6 p q u v p1 p2 p3 e1 e2 hu hv
  · intro q u q1 q2 hu
    rw [g, if_neg (by omega)] at hu
    by_cases e : q = k
    · rw [if_pos e] at hu
      cases hu
      exact .inl hyx
    · rw [if_neg e] at hu
      exact h7 q u q1 (by omega) hu
  · intro q u q1 q2 hu
    rw [g, if_neg (by omega), if_neg (by omega)] at hu
    exact h8 q u (by omega) q2 hu
  · intro q u q1 q2 hu
    rw [g, if_neg (by omega), if_neg (by omega)] at hu
    exact h9 q u q1 q2 hu
theorem UpP.stop {key : Int → Int} {a b k i : Nat} {x : Int} {l c : List Int} (h : UpP key a b k i x l c) (hk : ¬ k + 1 < i) : Seg a b l c ∧ Srt key a b c := by
  obtain ⟨h1, h2, h3, h4, h5, h6, h7, h8, h9⟩ := h
  refine ⟨h4, fun p q u v p1 p2 p3 hu hv => ?_⟩
  by_cases e1 : p = k
  · subst e1
    rw [h5] at hu
    cases hu
    exact h9 q v (by omega) p3 hv
  · by_cases e2 : q = k
    · subst e2
      rw [h5] at hv
      cases hv
      exact h7 p u p1 p2 hu
    · exact h6 p q u v p1 p2 p3 e1 e2 hu hv

/-- the last one is on its way down to place i -/
def DnP (key : Int → Int) (a m k i : Nat) (x : Int) (l c : List Int) : Prop := InsP key a m k x l c ∧ i ≤ k ∧ (∀ q, q < k → c[q]? = l[q]?)
theorem DnP.start {key : Int → Int} {a m i : Nat} {x : Int} {l : List Int} (ham : a ≤ m) (hi : i ≤ m) (hx : l[m]? = some x) (hs : Srt key a m l) (hc : Crs a m (m + 1) l) : DnP key a m m i x l l :=
  ⟨.start ham hs hx (fun p u p1 p2 hu => hc p m u x p1 p2 (Nat.le_refl _) (Nat.lt_succ_self _) hu hx), hi, fun _ _ => rfl⟩
theorem DnP.step {key : Int → Int} {a m k i : Nat} {x : Int} {l c : List Int} (h : DnP key a m (k + 1) i x l c) (hik : i ≤ k) (hai : a ≤ i) (hm : m < c.length) (hb : BinP (fun h => ¬ key x < key (l.getD h 0)) a m i i) (hkm : k < m) :
    DnP key a m k i x l (swapL c (k + 1) k) := by
  obtain ⟨h1, h2, h3⟩ := h
  obtain ⟨u, hu⟩ : ∃ u, c[k]? = some u := ⟨c[k], List.getElem?_eq_getElem (by omega)⟩
  have hlu : l[k]? = some u := by rw [← h3 k (by omega)]; exact hu
  have hlt : key x < key u := by
    have := hb.2.2.2.2 k hik hkm
    simp only [getD_of hlu] at this
    omega
  refine ⟨h1.step (by omega) hm hu hlt, hik, fun q hq => ?_⟩
  rw [swapL_get h1.2.2.2.1 hu, if_neg (by omega), if_neg (by omega)]
  exact h3 q (by omega)
theorem DnP.stop {key : Int → Int} {a m i : Nat} {x : Int} {l c : List Int} (h : DnP key a m i i x l c) (hlen : i ≤ l.length) (hb : BinP (fun h => ¬ key x < key (l.getD h 0)) a m i i) : Seg a (m + 1) l c ∧ Srt key a (m + 1) c := by
  obtain ⟨h1, h2, h3⟩ := h
  refine ⟨h1.2.2.1, h1.stop ?_⟩
  by_cases e : i = a
  · exact .inl e
  · obtain ⟨b1, b2, b3, b4, b5⟩ := hb
    obtain ⟨u, hu⟩ : ∃ u, l[i - 1]? = some u := ⟨l[i - 1], List.getElem?_eq_getElem (by omega)⟩
    refine .inr ⟨u, by omega, by rw [h3 (i - 1) (by omega)]; exact hu, ?_⟩
    have := b4 (i - 1) (by omega) (by omega)
    simp only [getD_of hu] at this
    exact this

/-- the search in the midst -/
theorem BinP.mid {key : Int → Int} {lo up p s : Nat} {l : List Int} (h : BinP (fun c => ¬ key (l.getD (p - c) 0) < key (l.getD c 0)) lo up s s) : MidP key lo up p s s l := by
  obtain ⟨h1, h2, h3, h4, h5⟩ := h
  refine ⟨h1, h2, h3, fun c x y c1 c2 hx hy => ?_, fun c x y c1 c2 hx hy => ?_⟩
  · have := h4 c c1 c2
    simp only [getD_of hx, getD_of hy] at this
    exact this
  · have := h5 c c1 c2
    simp only [getD_of hx, getD_of hy] at this
    omega
theorem mid_mono {key : Int → Int} {a m b mid lo up : Nat} {l : List Int} (hab : a < m ∧ m < b) (hmid : 2 * mid ≤ a + b ∧ a + b ≤ 2 * mid + 1) (hb : b ≤ l.length) (h1 : Srt key a m l) (h2 : Srt key m b l)
    (hlo : (mid < m ∧ lo = mid + m - b ∧ up = mid) ∨ (m ≤ mid ∧ lo = a ∧ up = m)) :
    ∀ c d, lo ≤ c → c ≤ d → d < up → ¬ key (l.getD (mid + m - 1 - d) 0) < key (l.getD d 0) → ¬ key (l.getD (mid + m - 1 - c) 0) < key (l.getD c 0) := by
  intro c d c1 c2 c3 h
  have gx : ∀ i, i < b → l[i]? = some (l.getD i 0) := fun i hi => by rw [List.getElem?_eq_getElem (show i < l.length by omega)]; simp [List.getD, show i < l.length by omega]
  have k1 := h1.key_le (show a ≤ c by omega) c2 (by omega) (gx c (by omega)) (gx d (by omega))
  have k2 := h2.key_le (show m ≤ mid + m - 1 - d by omega) (show mid + m - 1 - d ≤ mid + m - 1 - c by omega) (by omega) (gx _ (by omega)) (gx _ (by omega))
  omega
theorem up_mono {key : Int → Int} {m b : Nat} {x : Int} {l : List Int} (hb : b ≤ l.length) (h2 : Srt key m b l) : ∀ c d, m ≤ c → c ≤ d → d < b → key (l.getD d 0) < key x → key (l.getD c 0) < key x := by
  intro c d c1 c2 c3 h
  have gx : ∀ i, i < b → l[i]? = some (l.getD i 0) := fun i hi => by rw [List.getElem?_eq_getElem (show i < l.length by omega)]; simp [List.getD, show i < l.length by omega]
  have k1 := h2.key_le c1 c2 c3 (gx c (by omega)) (gx d c3)
  omega
theorem dn_mono {key : Int → Int} {a m : Nat} {x : Int} {l : List Int} (hb : m ≤ l.length) (h1 : Srt key a m l) : ∀ c d, a ≤ c → c ≤ d → d < m → ¬ key x < key (l.getD d 0) → ¬ key x < key (l.getD c 0) := by
  intro c d c1 c2 c3 h
  have gx : ∀ i, i < m → l[i]? = some (l.getD i 0) := fun i hi => by rw [List.getElem?_eq_getElem (show i < l.length by omega)]; simp [List.getD, show i < l.length by omega]
  have k1 := h1.key_le c1 c2 c3 (gx c (by omega)) (gx d c3)
  omega

end Go.Proofs.YtfjplphdkfiljaaDoor
