/-
  Walks: the text of a ratio, and what a number comes to, where the product has 64 bits; the example.
  Walks: the ratio of a text, and the statement RatioTexts.
-/
import Derived.Test.YtelcmkccfjdmjaaGreatDoorProg
import Derived.Test.YtelcmkccfjdmjaaGreatDoorRatioA
import Derived.Test.YtelcmkccfjdmjaaGreatDoorNumLaw
import Derived.Lib.IndexLaws
namespace Go.Proofs.YtelcmkccfjdmjaaGreatDoor
open Go.Proofs Go.RowKit Go.Shelf

/-- the text of a ratio -/
def ratioT (n d : Int) : ByteArray := if rightR n d then (printI n ++ ⟨#[47]⟩) ++ printI d else ByteArray.empty

set_option maxHeartbeats 1000000 in
theorem RPrint_any (n d : Int) (w : World) (hn : 0 ≤ n) (ht : Pow10 w) :
    Calls Tryz.prog 101 #[ratV n d] w fun e w' => e = .returned (.string (ratioT n d)) ∧ Below w.heap.size w w' := by
  have HR := Lib.hid (fun W => ratRight_any n d W hn)
  have HT := Lib.hid ht
  unfold ratioT
  cases h : rightR n d with
  | false =>
    rw [h] at HR
    clear h ht
    go_enter Tryz.func101, Tryz.ntmps101
    go_wp2_with (go_at_call 143; refine (HR.out _).mono ?_; rintro e w1 ⟨rfl, hb1⟩)
    go_ret
    exact ⟨rfl, (Below.of_al _ _).st hb1⟩
  | true =>
    obtain ⟨r1, r2, r3⟩ := rightR_of h
    rw [h] at HR
    clear h ht
    have HX := Lib.hid (fun W h => Print_any n hn (by omega) W h)
    have HY := Lib.hid (fun W h => Print_any d (by omega) (by omega) W h)
    have z1 := printI_size_le hn (show n < 18446744073709551616 by omega)
    have z2 := printI_size_le (show 0 ≤ d by omega) (show d < 18446744073709551616 by omega)
    rw [if_pos rfl]
    generalize printI n = p1 at *
    generalize printI d = p2 at *
    go_enter Tryz.func101, Tryz.ntmps101
    go_wp2_with fail
    obtain ⟨W, hW, c0, c1, hsW⟩ : ∃ W, W = w.alloc (Obj.cells #[.int .u64 n, .int .u64 d] 98) ∧ W.cell? ⟨w.heap.size, 0, none⟩ = some (.int .u64 n) ∧ W.cell? ⟨w.heap.size, 1, none⟩ = some (.int .u64 d) ∧ w.heap.size < W.heap.size := ⟨_, rfl, by go_simp, by go_simp, by simp⟩
    rw [← hW]
    have HW := Lib.hid (show Below w.heap.size w W by rw [hW]; repeat (first | exact Below.refl _ _ | refine Below.al ?_ _ | refine Below.dr ?_ _ | refine Below.drew ?_ | assumption | (refine Below.st ?_ (by assumption))))
    clear hW
    have e0 := fun p => cell_ext p c0
    have e1 := fun p => cell_ext p c1
    refine (HR.out _).mono ?_
    rintro e w1 ⟨rfl, hb1⟩
    have d0 := cell_later hb1 c0
    have d1 := cell_later hb1 c1
    have HW1 := Lib.hid (HW.out.st hb1)
    clear c0 c1 e0 e1 hb1
    have e0 := fun p => cell_ext p d0
    have e1 := fun p => cell_ext p d1
    have XT := Lib.hid (fun p => tabIs_go HT.out (HW1.out.st (below_ext w1 p)))
    go_wp2_with fail
    refine wp_region_ext (by kernel_rfl) (by kernel_rfl) ?_
    repeat (go_big_quiet_step ((first
      | (go_at_call_of 42 (Value.int IntKind.u64 n); exact Calls.ext_of (HX.out _ (XT.out _)))
      | (go_at_call_of 42 (Value.int IntKind.u64 d); exact Calls.ext_of (HY.out _ (XT.out _))))))
    refine wpQuiet_nil ?_
    rintro _ ⟨p2, rfl⟩
    have HB2 := Lib.hid (below_ext w1 p2)
    generalize ext w1 p2 = w2 at HB2 ⊢
    go_wp2
    go_ret
    exact ⟨by first | rfl | simp, HW1.out.st HB2.out⟩

set_option maxHeartbeats 1000000 in
theorem refRPrint_any (n d : Int) (w : World) (hn : 0 ≤ n) :
    Calls Tryz.prog 104 #[ratV n d] w fun e w' => e = .returned (.string (ratioT n d)) ∧ Below w.heap.size w w' := by
  have HR := Lib.hid (fun W => refRight_ratio n d W)
  unfold ratioT
  cases h : rightR n d with
  | false =>
    rw [h] at HR
    clear h
    go_enter Tryz.func104, Tryz.ntmps104
    go_wp2_with (go_at_call 147; refine (HR.out _).mono ?_; rintro e w1 ⟨rfl, hb1⟩)
    go_ret
    exact ⟨rfl, (Below.of_al _ _).st hb1⟩
  | true =>
    obtain ⟨r1, r2, r3⟩ := rightR_of h
    rw [h] at HR
    clear h
    have HX := Lib.hid (fun W => refPrint_any n hn (by omega) W)
    have HY := Lib.hid (fun W => refPrint_any d (by omega) (by omega) W)
    have z1 := printI_size_le hn (show n < 18446744073709551616 by omega)
    have z2 := printI_size_le (show 0 ≤ d by omega) (show d < 18446744073709551616 by omega)
    rw [if_pos rfl]
    generalize printI n = p1 at *
    generalize printI d = p2 at *
    go_enter Tryz.func104, Tryz.ntmps104
    go_wp2_with fail
    obtain ⟨W, hW, c0, c1, hsW⟩ : ∃ W, W = w.alloc (Obj.cells #[.int .u64 n, .int .u64 d] 98) ∧ W.cell? ⟨w.heap.size, 0, none⟩ = some (.int .u64 n) ∧ W.cell? ⟨w.heap.size, 1, none⟩ = some (.int .u64 d) ∧ w.heap.size < W.heap.size := ⟨_, rfl, by go_simp, by go_simp, by simp⟩
    rw [← hW]
    have HW := Lib.hid (show Below w.heap.size w W by rw [hW]; repeat (first | exact Below.refl _ _ | refine Below.al ?_ _ | refine Below.dr ?_ _ | refine Below.drew ?_ | assumption | (refine Below.st ?_ (by assumption))))
    clear hW
    have e0 := fun p => cell_ext p c0
    have e1 := fun p => cell_ext p c1
    refine (HR.out _).mono ?_
    rintro e w1 ⟨rfl, hb1⟩
    have d0 := cell_later hb1 c0
    have d1 := cell_later hb1 c1
    have HW1 := Lib.hid (HW.out.st hb1)
    clear c0 c1 e0 e1 hb1
    have e0 := fun p => cell_ext p d0
    have e1 := fun p => cell_ext p d1
    go_wp2_with fail
    refine wp_region_ext (by kernel_rfl) (by kernel_rfl) ?_
    repeat (go_big_quiet_step ((first
      | (go_at_call_of 46 (Value.int IntKind.u64 n); exact Calls.ext_of (HX.out _))
      | (go_at_call_of 46 (Value.int IntKind.u64 d); exact Calls.ext_of (HY.out _)))))
    refine wpQuiet_nil ?_
    rintro _ ⟨p2, rfl⟩
    have HB2 := Lib.hid (below_ext w1 p2)
    generalize ext w1 p2 = w2 at HB2 ⊢
    go_wp2
    go_ret
    exact ⟨by first | rfl | simp, HW1.out.st HB2.out⟩

theorem upQ_split {p d : Int} (hp : 0 ≤ p) (hd : 1 ≤ d) : (p % d = 0 → (p + d - 1) / d = p / d) ∧ (0 < p % d → (p + d - 1) / d = p / d + 1 ∧ 2 ≤ d ∧ 2 * (p / d) ≤ p) := by
  have h1 := Int.mul_ediv_add_emod p d
  have h2 := Int.emod_nonneg p (b := d) (by omega)
  have h3 := Int.emod_lt_of_pos p (b := d) (by omega)
  constructor
  · intro h
    have e : p + d - 1 = (d - 1) + d * (p / d) := by omega
    rw [e, Int.add_mul_ediv_left _ _ (by omega), Int.ediv_eq_zero_of_lt (by omega) (by omega)]
    omega
  · intro h
    have e : p + d - 1 = (p % d - 1) + d * (p / d + 1) := by rw [Int.mul_add]; omega
    refine ⟨?_, by omega, ?_⟩
    · rw [e, Int.add_mul_ediv_left _ _ (by omega), Int.ediv_eq_zero_of_lt (by omega) (by omega)]
      omega
    · have h4 : 0 ≤ p / d := Int.ediv_nonneg hp (by omega)
      have h5 : 2 * (p / d) ≤ d * (p / d) := Int.mul_le_mul_of_nonneg_right (by omega) h4
      omega

theorem const_r1 : withinR 3 3 4 4 = true := by decide
theorem const_r2 : upR 3 3 2 100 = 5 := by decide
theorem const_r3 : ratioT 1 2 = ⟨#[49, 47, 50]⟩ := by
  unfold ratioT
  rw [if_pos (by decide)]
  unfold printI
  rw [show (1 : Int).toNat = 1 from rfl, show (2 : Int).toNat = 2 from rfl, Lib.decDigits_one (by decide), Lib.decDigits_one (by decide)]
  rfl

end Go.Proofs.YtelcmkccfjdmjaaGreatDoor

namespace Go.Proofs.YtelcmkccfjdmjaaGreatDoor
open Go.Proofs Go.RowKit Go.Shelf

def slI (s : ByteArray) : Int := Lib.indexByte s.data.toList 47
theorem slI_cases (s : ByteArray) : (slI s = -1) ∨ ∃ i : Nat, slI s = (i : Int) ∧ i < s.size := by
  by_cases h : slI s = -1
  · exact .inl h
  · have h1 : -1 ≤ slI s := Lib.indexByte_ge _ _
    have h2 : slI s = ((slI s).toNat : Int) := by omega
    refine .inr ⟨_, h2, ?_⟩
    have := (Lib.indexByte_some h2).1
    rw [Lib.size_eq]
    exact (List.getElem?_eq_some_iff.1 this).1
theorem sl_get (s : ByteArray) (k : Nat) (h : k < s.size) : s.data.toList[k]? = some s[k] := by
  have : k < s.data.toList.length := by rw [← Lib.size_eq]; exact h
  rw [List.getElem?_eq_getElem this]
  rfl
theorem slI_hit {s : ByteArray} {k : Nat} (hk : k < s.size) (h : s[k] = 47) (hb : ∀ j (hj : j < s.size), j < k → s[j] ≠ 47) : slI s = (k : Int) := by
  rcases slI_cases s with h1 | ⟨i, h1, hi⟩
  · exact absurd (by rw [sl_get s k hk, h]) (Lib.indexByte_none h1 k)
  · obtain ⟨h2, h3⟩ := Lib.indexByte_some h1
    rcases Nat.lt_trichotomy i k with hl | rfl | hl
    · rw [sl_get s i hi] at h2
      exact absurd (Option.some.inj h2) (hb i hi hl)
    · exact h1
    · exact absurd (by rw [sl_get s k hk, h]) (h3 k hl)
theorem slI_miss {s : ByteArray} (hb : ∀ j (hj : j < s.size), j < s.size → s[j] ≠ 47) : slI s = -1 := by
  rcases slI_cases s with h1 | ⟨i, h1, hi⟩
  · exact h1
  · obtain ⟨h2, h3⟩ := Lib.indexByte_some h1
    rw [sl_get s i hi] at h2
    exact absurd (Option.some.inj h2) (hb i hi hi)

/-- the ratio of two parts, and the fault's number -/
def parseP (p q : Int × Int) : (Int × Int) × Int :=
  if p.2 ≠ 0 ∨ q.2 ≠ 0 then ((0, 0), 3) else if rightR p.1 q.1 = true then ((p.1, q.1), 0) else ((0, 0), 2)
/-- the ratio of a text, and the fault's number -/
def parseR (s : ByteArray) : (Int × Int) × Int :=
  if slI s = -1 then ((0, 0), 3) else parseP (parseI (s.extract 0 (slI s).toNat)) (parseI (s.extract ((slI s).toNat + 1) s.size))
theorem parseR_none {s : ByteArray} (h : slI s = -1) : parseR s = ((0, 0), 3) := if_pos h
theorem parseR_at {s : ByteArray} {i : Nat} (h : slI s = (i : Int)) : parseR s = parseP (parseI (s.extract 0 i)) (parseI (s.extract (i + 1) s.size)) := by
  unfold parseR
  rw [if_neg (by omega), h]
  rfl

def sCutS (s : ByteArray) : Value := if slI s = -1 then .tuple #[.string s, .string ByteArray.empty, .bool false] else .tuple #[.string (s.extract 0 (slI s).toNat), .string (s.extract ((slI s).toNat + 1) s.size), .bool true]

set_option maxHeartbeats 400000 in
theorem sliteCutS_any (s : ByteArray) (w : World) (hs : s.size ≤ 140737488355328) :
    Calls Tryz.prog 163 #[.string s, .string ⟨#[47]⟩] w fun e w' => e = .returned (sCutS s) ∧ Below w.heap.size w w' := by
  have HI := Lib.hid (fun W => Tryz.stringslite_Index_one s 47 W)
  rcases slI_cases s with h | ⟨i, h, hi⟩
  · have hh : Lib.indexByte s.data.toList 47 = -1 := h
    rw [hh] at HI
    have HR := Lib.hid (show sCutS s = _ from if_pos h)
    clear h hh
    generalize sCutS s = r at *
    go_enter Tryz.func163, Tryz.ntmps163
    go_wp2_with (go_at_call 162; refine (HI.out _).mono ?_; rintro e w1 ⟨rfl, rfl⟩)
    go_ret3
    exact ⟨by rw [HR.out]; rfl, Below.refl _ _⟩
  · have hh : Lib.indexByte s.data.toList 47 = (i : Int) := h
    rw [hh] at HI
    have HR := Lib.hid (show sCutS s = .tuple #[.string (s.extract 0 i), .string (s.extract (i + 1) s.size), .bool true] by
      unfold sCutS; rw [if_neg (by omega), h]; rfl)
    clear h hh
    generalize sCutS s = r at *
    go_enter Tryz.func163, Tryz.ntmps163
    go_wp2_with (go_at_call 162; refine (HI.out _).mono ?_; rintro e w1 ⟨rfl, rfl⟩)
    go_region
    go_wp2
    go_ret3
    exact ⟨by rw [HR.out]; rfl, Below.of_dr _ 1⟩

theorem sCutS_any (s : ByteArray) (w : World) (hs : s.size ≤ 140737488355328) :
    Calls Tryz.prog 124 #[.string s, .string ⟨#[47]⟩] w fun e w' => e = .returned (sCutS s) ∧ Below w.heap.size w w' := by
  have HI := Lib.hid (sliteCutS_any s w hs)
  unfold sCutS at *
  split at HI
  · rename_i h
    rw [if_pos h]
    clear h
    go_enter Tryz.func124, Tryz.ntmps124
    go_wp2_with (go_at_call 163; refine HI.out.mono ?_; rintro e w1 ⟨rfl, hb1⟩)
    go_ret3
    exact ⟨rfl, hb1⟩
  · rename_i h
    rw [if_neg h]
    clear h
    go_enter Tryz.func124, Tryz.ntmps124
    go_wp2_with (go_at_call 163; refine HI.out.mono ?_; rintro e w1 ⟨rfl, hb1⟩)
    go_ret3
    exact ⟨rfl, hb1⟩

theorem cut_size (s : ByteArray) (f k : Nat) (hk : k ≤ s.size) : (s.extract f k).size ≤ s.size := by
  rw [Lib.size_eq, Lib.extract_data, List.length_take, List.length_drop, ← Lib.size_eq]
  omega

abbrev parV (p : (Int × Int) × Int) : Value := .tuple #[ratV p.1.1 p.1.2, .int .i64 p.2]

theorem parseP_cases (a b : ByteArray) : (∃ f, parseI a = (0, f) ∧ f ≠ 0) ∨ (∃ v f, parseI a = (v, 0) ∧ 0 ≤ v ∧ parseI b = (0, f) ∧ f ≠ 0) ∨ ∃ v u, parseI a = (v, 0) ∧ 0 ≤ v ∧ parseI b = (u, 0) ∧ 0 ≤ u := by
  rcases parseI_cases a with h | h | ⟨v, h, v0, _⟩
  · exact .inl ⟨_, h, by decide⟩
  · exact .inl ⟨_, h, by decide⟩
  · rcases parseI_cases b with h2 | h2 | ⟨u, h2, u0, _⟩
    · exact .inr (.inl ⟨v, _, h, v0, h2, by decide⟩)
    · exact .inr (.inl ⟨v, _, h, v0, h2, by decide⟩)
    · exact .inr (.inr ⟨v, u, h, v0, h2, u0⟩)

/-- a cell of a ratio's that is still empty and may be written -/
def Z2 (W : World) (b : Nat) : Prop := W.cell? ⟨b, 0, none⟩ = some (.int .u64 0) ∧ W.cell? ⟨b, 1, none⟩ = some (.int .u64 0) ∧ W.frozen? ⟨b, 0, none⟩ = false ∧ W.frozen? ⟨b, 1, none⟩ = false
theorem z2_new (w : World) (T : TypeId) : Z2 (w.alloc (.cells #[.int .u64 0, .int .u64 0] T)) w.heap.size := ⟨by go_simp, by go_simp, by go_simp, by go_simp⟩
theorem z2_lt {W : World} {b : Nat} (h : Z2 W b) : b < W.heap.size := by
  have h1 := h.1
  unfold World.cell? at h1
  rcases Nat.lt_or_ge b W.heap.size with h2 | h2
  · exact h2
  · simp only at h1
    rw [Array.getElem?_eq_none h2] at h1
    simp at h1
theorem z2_go {W W' : World} {b : Nat} (h : Z2 W b) (hb : Below W.heap.size W W') : Z2 W' b :=
  ⟨cell_later hb h.1, cell_later hb h.2.1, (hb.frozen (z2_lt h)).trans h.2.2.1, (hb.frozen (z2_lt h)).trans h.2.2.2⟩

theorem z2_r0 {W : World} {b : Nat} (h : Z2 W b) (x : Value) : (W.setCell ⟨b, 0, none⟩ x).cell? ⟨b, 0, none⟩ = some x := World.cell?_setCell_same _ _ _ h.1
theorem z2_r1 {W : World} {b : Nat} (h : Z2 W b) (x y : Value) : ((W.setCell ⟨b, 0, none⟩ x).setCell ⟨b, 1, none⟩ y).cell? ⟨b, 1, none⟩ = some y := by
  refine World.cell?_setCell_same (u := .int .u64 0) _ _ _ ?_
  rw [World.cell?_setCell_other _ _ _ _ (by simp)]
  exact h.2.1

set_option maxHeartbeats 1000000 in
theorem RParse_any (s : ByteArray) (w : World) (hs : s.size ≤ 140737488355328) :
    Calls Tryz.prog 158 #[.string s] w fun e w' => e = .returned (parV (parseR s)) ∧ Below w.heap.size w w' := by
  have HI := Lib.hid (fun W => sCutS_any s W hs)
  rcases slI_cases s with h | ⟨i, h, hi⟩
  · have HP1 := Lib.hid (fun W => Parse_any s W hs)
    have HP2 := Lib.hid (fun W => Parse_any ByteArray.empty W (by decide))
    have HV := Lib.hid (show sCutS s = _ from if_pos h)
    rw [HV.out] at HI
    have HR := Lib.hid (parseR_none h)
    clear HV h
    generalize parseR s = r at *
    generalize parseI s = p at *
    generalize parseI ByteArray.empty = q at *
    go_enter Tryz.func158, Tryz.ntmps158
    go_wp2_with fail
    obtain ⟨W, hW, hz, hB⟩ : ∃ W, W = w.alloc (Obj.cells #[.int .u64 0, .int .u64 0] 98) ∧ Z2 W w.heap.size ∧ Below w.heap.size w W := ⟨_, rfl, z2_new _ _, Below.of_al _ _⟩
    rw [← hW]
    clear hW
    refine (HI.out _).mono ?_
    rintro e w1 ⟨rfl, hb1⟩
    go_wp2_with fail
    refine (HP1.out _).mono ?_
    rintro e w2 ⟨rfl, hb2⟩
    go_wp2_with fail
    refine (HP2.out _).mono ?_
    rintro e w3 ⟨rfl, hb3⟩
    have HB3 := Lib.hid (((hB.st hb1).st hb2).st hb3)
    have HZ3 := Lib.hid (z2_go (z2_go (z2_go hz hb1) hb2) hb3)
    have hlt3 := z2_lt HZ3.out
    clear hB hb1 hb2 hb3 hz
    obtain ⟨m0, m1, f0, f1⟩ := HZ3.out
    have r0 := z2_r0 HZ3.out
    have r1 := z2_r1 HZ3.out
    go_wp2
    refine bodyPost_ret (by simp [results, Tryz.results158, go_sem, r0, r1]; try rfl) rfl ?_
    exact ⟨by rw [HR.out], by have := HB3.out; first | assumption | exact (HB3.out.setCell (by simp) _).setCell (by simp) _⟩
  · have HV := Lib.hid (show sCutS s = .tuple #[.string (s.extract 0 i), .string (s.extract (i + 1) s.size), .bool true] by
      unfold sCutS; rw [if_neg (by omega), h]; rfl)
    rw [HV.out] at HI
    have hr := parseR_at h
    have k1 := cut_size s 0 i (by omega)
    have k2 := cut_size s (i + 1) s.size (Nat.le_refl _)
    have HP1 := Lib.hid (fun W => Parse_any (s.extract 0 i) W (by omega))
    have HP2 := Lib.hid (fun W => Parse_any (s.extract (i + 1) s.size) W (by omega))
    have hcs := parseP_cases (s.extract 0 i) (s.extract (i + 1) s.size)
    generalize s.extract 0 i = xa at *
    generalize s.extract (i + 1) s.size = xb at *
    clear HV h k1 k2
    rcases hcs with ⟨f, h1, hf⟩ | ⟨v, f, h1, v0, h2, hf⟩ | ⟨v, u, h1, v0, h2, u0⟩
    · have HR := Lib.hid (show parseR s = ((0, 0), 3) by rw [hr, h1]; unfold parseP; rw [if_pos (.inl hf)])
      rw [h1] at HP1
      clear hr h1
      generalize parseR s = r at *
      generalize parseI xb = q at *
      go_enter Tryz.func158, Tryz.ntmps158
      go_wp2_with fail
      obtain ⟨W, hW, hz, hB⟩ : ∃ W, W = w.alloc (Obj.cells #[.int .u64 0, .int .u64 0] 98) ∧ Z2 W w.heap.size ∧ Below w.heap.size w W := ⟨_, rfl, z2_new _ _, Below.of_al _ _⟩
      rw [← hW]
      clear hW
      refine (HI.out _).mono ?_
      rintro e w1 ⟨rfl, hb1⟩
      go_wp2_with fail
      refine (HP1.out _).mono ?_
      rintro e w2 ⟨rfl, hb2⟩
      go_wp2_with fail
      refine (HP2.out _).mono ?_
      rintro e w3 ⟨rfl, hb3⟩
      have HB3 := Lib.hid (((hB.st hb1).st hb2).st hb3)
      have HZ3 := Lib.hid (z2_go (z2_go (z2_go hz hb1) hb2) hb3)
      have hlt3 := z2_lt HZ3.out
      clear hB hb1 hb2 hb3 hz
      obtain ⟨m0, m1, f0, f1⟩ := HZ3.out
      have r0 := z2_r0 HZ3.out
      have r1 := z2_r1 HZ3.out
      go_wp2
      refine bodyPost_ret (by simp [results, Tryz.results158, go_sem, r0, r1]; try rfl) rfl ?_
      exact ⟨by rw [HR.out], by have := HB3.out; first | assumption | exact (HB3.out.setCell (by simp) _).setCell (by simp) _⟩
    · have HR := Lib.hid (show parseR s = ((0, 0), 3) by rw [hr, h1, h2]; unfold parseP; rw [if_pos (.inr hf)])
      rw [h1] at HP1
      rw [h2] at HP2
      clear hr h1 h2
      generalize parseR s = r at *
      go_enter Tryz.func158, Tryz.ntmps158
      go_wp2_with fail
      obtain ⟨W, hW, hz, hB⟩ : ∃ W, W = w.alloc (Obj.cells #[.int .u64 0, .int .u64 0] 98) ∧ Z2 W w.heap.size ∧ Below w.heap.size w W := ⟨_, rfl, z2_new _ _, Below.of_al _ _⟩
      rw [← hW]
      clear hW
      refine (HI.out _).mono ?_
      rintro e w1 ⟨rfl, hb1⟩
      go_wp2_with fail
      refine (HP1.out _).mono ?_
      rintro e w2 ⟨rfl, hb2⟩
      go_wp2_with fail
      refine (HP2.out _).mono ?_
      rintro e w3 ⟨rfl, hb3⟩
      have HB3 := Lib.hid (((hB.st hb1).st hb2).st hb3)
      have HZ3 := Lib.hid (z2_go (z2_go (z2_go hz hb1) hb2) hb3)
      have hlt3 := z2_lt HZ3.out
      clear hB hb1 hb2 hb3 hz
      obtain ⟨m0, m1, f0, f1⟩ := HZ3.out
      have r0 := z2_r0 HZ3.out
      have r1 := z2_r1 HZ3.out
      go_wp2
      refine bodyPost_ret (by simp [results, Tryz.results158, go_sem, r0, r1]; try rfl) rfl ?_
      exact ⟨by rw [HR.out], by have := HB3.out; first | assumption | exact (HB3.out.setCell (by simp) _).setCell (by simp) _⟩
    · have hr2 : parseR s = if rightR v u = true then ((v, u), 0) else ((0, 0), 2) := by rw [hr, h1, h2]; unfold parseP; simp
      have HG := Lib.hid (fun W => ratRight_any v u W v0)
      rw [h1] at HP1
      rw [h2] at HP2
      clear hr h1 h2
      cases hg : rightR v u with
      | true =>
        rw [hg, if_pos rfl] at hr2
        rw [hg] at HG
        have HR := Lib.hid hr2
        clear hr2 hg
        generalize parseR s = r at *
        go_enter Tryz.func158, Tryz.ntmps158
        go_wp2_with fail
        obtain ⟨W, hW, hz, hB⟩ : ∃ W, W = w.alloc (Obj.cells #[.int .u64 0, .int .u64 0] 98) ∧ Z2 W w.heap.size ∧ Below w.heap.size w W := ⟨_, rfl, z2_new _ _, Below.of_al _ _⟩
        rw [← hW]
        clear hW
        refine (HI.out _).mono ?_
        rintro e w1 ⟨rfl, hb1⟩
        go_wp2_with fail
        refine (HP1.out _).mono ?_
        rintro e w2 ⟨rfl, hb2⟩
        go_wp2_with fail
        refine (HP2.out _).mono ?_
        rintro e w3 ⟨rfl, hb3⟩
        have HB3 := Lib.hid (((hB.st hb1).st hb2).st hb3)
        have HZ3 := Lib.hid (z2_go (z2_go (z2_go hz hb1) hb2) hb3)
        have hlt3 := z2_lt HZ3.out
        clear hB hb1 hb2 hb3 hz
        have HZ4 := Lib.hid (fun o => z2_go HZ3.out (Below.of_al w3 o))
        have m0 := fun o => (HZ4.out o).1
        have m1 := fun o => (HZ4.out o).2.1
        have f0 := fun o => (HZ4.out o).2.2.1
        have f1 := fun o => (HZ4.out o).2.2.2
        go_wp2_with fail
        refine (HG.out _).mono ?_
        rintro e w4 ⟨rfl, hb4⟩
        have HB4 := Lib.hid ((HB3.out.al _).st hb4)
        have HZ5 := Lib.hid (z2_go (HZ4.out _) hb4)
        have a0 := cell_later hb4 (a := ⟨w3.heap.size, 0, none⟩) (v := .int .u64 v) (by go_simp)
        have a1 := cell_later hb4 (a := ⟨w3.heap.size, 1, none⟩) (v := .int .u64 u) (by go_simp)
        clear m0 m1 f0 f1 hb4
        obtain ⟨m0, m1, f0, f1⟩ := HZ5.out
        have r0 := z2_r0 HZ5.out
        have r1 := z2_r1 HZ5.out
        go_wp2
        refine bodyPost_ret (by simp [results, Tryz.results158, go_sem, r0, r1]; try rfl) rfl ?_
        exact ⟨by rw [HR.out], by have := HB4.out; first | assumption | exact (HB4.out.setCell (by simp) _).setCell (by simp) _⟩
      | false =>
        rw [hg, if_neg (by decide)] at hr2
        rw [hg] at HG
        have HR := Lib.hid hr2
        clear hr2 hg
        generalize parseR s = r at *
        go_enter Tryz.func158, Tryz.ntmps158
        go_wp2_with fail
        obtain ⟨W, hW, hz, hB⟩ : ∃ W, W = w.alloc (Obj.cells #[.int .u64 0, .int .u64 0] 98) ∧ Z2 W w.heap.size ∧ Below w.heap.size w W := ⟨_, rfl, z2_new _ _, Below.of_al _ _⟩
        rw [← hW]
        clear hW
        refine (HI.out _).mono ?_
        rintro e w1 ⟨rfl, hb1⟩
        go_wp2_with fail
        refine (HP1.out _).mono ?_
        rintro e w2 ⟨rfl, hb2⟩
        go_wp2_with fail
        refine (HP2.out _).mono ?_
        rintro e w3 ⟨rfl, hb3⟩
        have HB3 := Lib.hid (((hB.st hb1).st hb2).st hb3)
        have HZ3 := Lib.hid (z2_go (z2_go (z2_go hz hb1) hb2) hb3)
        have hlt3 := z2_lt HZ3.out
        clear hB hb1 hb2 hb3 hz
        have HZ4 := Lib.hid (fun o => z2_go HZ3.out (Below.of_al w3 o))
        have m0 := fun o => (HZ4.out o).1
        have m1 := fun o => (HZ4.out o).2.1
        have f0 := fun o => (HZ4.out o).2.2.1
        have f1 := fun o => (HZ4.out o).2.2.2
        go_wp2_with fail
        refine (HG.out _).mono ?_
        rintro e w4 ⟨rfl, hb4⟩
        have HB4 := Lib.hid ((HB3.out.al _).st hb4)
        have HZ5 := Lib.hid (z2_go (HZ4.out _) hb4)
        have a0 := cell_later hb4 (a := ⟨w3.heap.size, 0, none⟩) (v := .int .u64 v) (by go_simp)
        have a1 := cell_later hb4 (a := ⟨w3.heap.size, 1, none⟩) (v := .int .u64 u) (by go_simp)
        clear m0 m1 f0 f1 hb4
        obtain ⟨m0, m1, f0, f1⟩ := HZ5.out
        have r0 := z2_r0 HZ5.out
        have r1 := z2_r1 HZ5.out
        go_wp2
        refine bodyPost_ret (by simp [results, Tryz.results158, go_sem, r0, r1]; try rfl) rfl ?_
        exact ⟨by rw [HR.out], by have := HB4.out; first | assumption | exact (HB4.out.setCell (by simp) _).setCell (by simp) _⟩

end Go.Proofs.YtelcmkccfjdmjaaGreatDoor
