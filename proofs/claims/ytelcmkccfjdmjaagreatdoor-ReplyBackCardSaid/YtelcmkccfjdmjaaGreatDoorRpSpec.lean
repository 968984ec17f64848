/-
  Replies as lines, in plain Lean: the text of a route and of a reply, and what a line is read as.
-/
import Derived.Test.YtelcmkccfjdmjaaGreatDoorNumSpec
import Derived.Test.YtelcmkccfjdmjaaGreatDoorSplitLaw
import Derived.Test.YtelcmkccfjdmjaaGreatDoorWordsSpec
import Derived.Test.YtelcmkccfjdmjaaGreatDoorLinesLaw
namespace Go.Proofs.YtelcmkccfjdmjaaGreatDoor
open Go.Proofs Go.RowKit Go.Shelf

structure RtD where
  es : List Int
  w : Int
deriving DecidableEq
structure RepD where
  f : Int
  name : ByteArray
  nums : List Int
  rts : List RtD
  words : List ByteArray
deriving DecidableEq
def rep0 : RepD := ⟨0, ByteArray.empty, [], [], []⟩

/-! routes -/
def negR (r : RtD) : Bool := r.es.any fun e => decide (e < 0)
def routeT (r : RtD) : ByteArray := if negR r then ByteArray.empty else (printI r.w ++ ⟨#[58]⟩) ++ joinB 46 (r.es.map printI)
def partI (p : ByteArray) : Int × Int := intI p 9007199254740992
def badP (ps : List ByteArray) : Bool := ps.any fun p => (partI p).2 != 0
def valP (ps : List ByteArray) : List Int := ps.map fun p => (partI p).1
def rt0 : RtD := ⟨[], 0⟩
/-- the number, and the edges, of a text that is parted at place i -/
def cutRt (s : ByteArray) (i : Nat) : RtD × Bool :=
  if (parseI (s.extract 0 i)).2 ≠ 0 then (rt0, false)
  else if (s.extract (i + 1) s.size).size = 0 then (⟨[], (parseI (s.extract 0 i)).1⟩, true)
  else if badP (partsS 46 (s.extract (i + 1) s.size)) then (rt0, false)
  else (⟨valP (partsS 46 (s.extract (i + 1) s.size)), (parseI (s.extract 0 i)).1⟩, true)
def parseRt (s : ByteArray) : RtD × Bool := if Lib.indexByte s.data.toList 58 = -1 then (rt0, false) else cutRt s (Lib.indexByte s.data.toList 58).toNat

/-- a route within bounds -/
def okRt (r : RtD) : Prop := 0 ≤ r.w ∧ r.w < 18446744073709551616 ∧ ∀ e ∈ r.es, 0 ≤ e ∧ e ≤ 9007199254740992
theorem negR_ok {r : RtD} (h : okRt r) : negR r = false := by
  unfold negR
  rw [List.any_eq_false]
  intro e he
  have := (h.2.2 e he).1
  simp
  omega
theorem print_byte (n : Int) : ∀ c ∈ (printI n).data.toList, 48 ≤ c.toNat ∧ c.toNat ≤ 57 := by
  intro c hc
  rw [printI_data] at hc
  have := isDig_of (decDigits_dig _ c hc)
  omega
theorem print_ne (n : Int) : (printI n).data.toList ≠ [] := by rw [printI_data]; exact decDigits_ne _
theorem routeT_data {r : RtD} (h : negR r = false) : (routeT r).data.toList = (printI r.w).data.toList ++ 58 :: (joinB 46 (r.es.map printI)).data.toList := by
  unfold routeT
  rw [h]
  simp
theorem intI_pr {e most : Int} (h0 : 0 ≤ e) (h1 : e ≤ most) (h2 : most < 18446744073709551616) : intI (printI e) most = (e, 0) := by
  unfold intI
  rw [parse_print h0 (by omega)]
  simp
  omega
theorem pr_intI {p : ByteArray} {most : Int} (h : (intI p most).2 = 0) : printI (intI p most).1 = p ∧ 0 ≤ (intI p most).1 ∧ (intI p most).1 ≤ most := by
  unfold intI at *
  split at h
  · rename_i hh; exact absurd h hh
  · split at h
    · cases h
    · rename_i h1 h2
      rw [if_neg h1, if_neg h2]
      rcases parseI_cases p with e | e | ⟨v, e, h3, h4⟩
      · rw [e] at h1; simp at h1
      · rw [e] at h1; simp at h1
      · rw [e]
        rw [e] at h2
        exact ⟨print_parse e, h3, by simp only at h2; omega⟩
theorem no_of_print {c : UInt8} (hc : ¬ (48 ≤ c.toNat ∧ c.toNat ≤ 57)) (n : Int) : ∀ x ∈ (printI n).data.toList, x ≠ c := by
  rintro x hx rfl
  exact hc (print_byte n x hx)
theorem extract_pre (s : ByteArray) (i : Nat) : (s.extract 0 i).data.toList = s.data.toList.take i := by rw [ext_data]; rfl
theorem extract_suf (s : ByteArray) (i : Nat) : (s.extract i s.size).data.toList = s.data.toList.drop i := by
  rw [ext_data, List.take_of_length_le (by simp)]
theorem cut_at {s a b : ByteArray} {c : UInt8} (h : s.data.toList = a.data.toList ++ c :: b.data.toList) : s.extract 0 a.size = a ∧ s.extract (a.size + 1) s.size = b := by
  have ha : a.size = a.data.toList.length := by simp
  constructor
  · apply Go.WideShapes.bytes_inj
    rw [extract_pre, h, ha, List.take_left' rfl]
  · apply Go.WideShapes.bytes_inj
    rw [extract_suf, h, ha, ← List.drop_drop, List.drop_left' rfl]
    rfl
/-- a route's text is read as it -/
theorem parseRt_route {r : RtD} (h : okRt r) : parseRt (routeT r) = (r, true) := by
  have hd := routeT_data (negR_ok h)
  obtain ⟨h1, h2, h3⟩ := h
  have hi : Lib.indexByte (routeT r).data.toList 58 = ((printI r.w).data.toList.length : Int) := by
    rw [hd]
    exact index_mid (no_of_print (by decide) _)
  obtain ⟨c1, c2⟩ := cut_at hd
  have hsz : (printI r.w).data.toList.length = (printI r.w).size := by simp
  unfold parseRt
  rw [hi, if_neg (by omega), Int.toNat_natCast, hsz]
  unfold cutRt
  rw [c1, c2, parse_print h1 h2, if_neg (by simp)]
  obtain ⟨es, w⟩ := r
  simp only at *
  cases es with
  | nil => rw [if_pos (by rfl)]
  | cons e es =>
    have hp : partsS 46 (joinB 46 ((e :: es).map printI)) = (e :: es).map printI := parts_join (by simp) (by
      intro s hs
      obtain ⟨n, _, rfl⟩ := List.mem_map.1 hs
      exact no_of_print (by decide) n)
    have hne : ¬ (joinB 46 ((e :: es).map printI)).size = 0 := by
      intro h0
      have e1 : (joinB 46 ((e :: es).map printI)) = ByteArray.empty := by
        apply Go.WideShapes.bytes_inj
        exact List.eq_nil_of_length_eq_zero (by simpa using h0)
      rw [e1] at hp
      have e2 : partsS 46 ByteArray.empty = [ByteArray.empty] := rfl
      rw [e2, List.map_cons] at hp
      have e3 := (List.cons.inj hp).1
      exact print_ne e (by rw [← e3]; rfl)
    have hv : ∀ x ∈ e :: es, partI (printI x) = (x, 0) := fun x hx => intI_pr (h3 x hx).1 (h3 x hx).2 (by decide)
    rw [if_neg hne, hp, if_neg (by
      unfold badP
      rw [Bool.not_eq_true, List.any_eq_false]
      intro p hm
      obtain ⟨x, hx, rfl⟩ := List.mem_map.1 hm
      rw [hv x hx]
      simp)]
    congr 2
    unfold valP
    rw [List.map_map]
    conv => rhs; rw [← List.map_id (e :: es)]
    refine List.map_congr_left fun x hx => ?_
    show (partI (printI x)).1 = x
    rw [hv x hx]
theorem parseI_bd (s : ByteArray) : 0 ≤ (parseI s).1 ∧ (parseI s).1 < 18446744073709551616 := by
  rcases parseI_cases s with h | h | ⟨v, h, h0, h1⟩ <;> rw [h]
  · decide
  · decide
  · exact ⟨h0, h1⟩
/-- what is read as a route has just its text -/
theorem route_parseRt {s : ByteArray} {r : RtD} (h : parseRt s = (r, true)) : routeT r = s ∧ okRt r := by
  unfold parseRt at h
  have hge := Lib.indexByte_ge s.data.toList 58
  split at h
  · cases h
  · rename_i hi
    obtain ⟨i, hi2⟩ : ∃ i : Nat, Lib.indexByte s.data.toList 58 = (i : Int) := ⟨(Lib.indexByte s.data.toList 58).toNat, by omega⟩
    rw [hi2, Int.toNat_natCast] at h
    have hat := (Lib.indexByte_some hi2).1
    have hlt := (List.getElem?_eq_some_iff.1 hat).1
    have hsplit : s.data.toList = (s.extract 0 i).data.toList ++ 58 :: (s.extract (i + 1) s.size).data.toList := by
      rw [extract_pre, extract_suf]
      have e : s.data.toList[i] = 58 := (List.getElem?_eq_some_iff.1 hat).2
      rw [← e, ← List.drop_eq_getElem_cons hlt, List.take_append_drop]
    unfold cutRt at h
    split at h
    · cases h
    · rename_i hpa
      have hpa2 : parseI (s.extract 0 i) = ((parseI (s.extract 0 i)).1, 0) := by
        have : (parseI (s.extract 0 i)).2 = 0 := by simpa using hpa
        rw [← this]
      have hbd := parseI_bd (s.extract 0 i)
      have hpr := print_parse hpa2
      split at h
      · rename_i hb
        have e := (Prod.mk.inj h).1
        subst e
        refine ⟨?_, hbd.1, hbd.2, by simp⟩
        apply Go.WideShapes.bytes_inj
        rw [routeT_data (by rfl), hsplit]
        show (printI (parseI (s.extract 0 i)).1).data.toList ++ 58 :: (joinB 46 []).data.toList = _
        rw [hpr]
        have : (s.extract (i + 1) s.size).data.toList = [] := List.eq_nil_of_length_eq_zero (by simpa using hb)
        rw [this]
        rfl
      · split at h
        · cases h
        · rename_i hb hbad
          have e := (Prod.mk.inj h).1
          subst e
          have hall : ∀ p ∈ partsS 46 (s.extract (i + 1) s.size), (partI p).2 = 0 := by
            intro p hp
            unfold badP at hbad
            rw [Bool.not_eq_true, List.any_eq_false] at hbad
            have := hbad p hp
            simpa using this
          have hok : okRt ⟨valP (partsS 46 (s.extract (i + 1) s.size)), (parseI (s.extract 0 i)).1⟩ := by
            refine ⟨hbd.1, hbd.2, fun e he => ?_⟩
            unfold valP at he
            obtain ⟨p, hp, rfl⟩ := List.mem_map.1 he
            exact (pr_intI (hall p hp)).2
          refine ⟨?_, hok⟩
          apply Go.WideShapes.bytes_inj
          rw [routeT_data (negR_ok hok), hsplit]
          show (printI (parseI (s.extract 0 i)).1).data.toList ++ 58 :: (joinB 46 ((valP (partsS 46 (s.extract (i + 1) s.size))).map printI)).data.toList = _
          rw [hpr]
          have : (valP (partsS 46 (s.extract (i + 1) s.size))).map printI = partsS 46 (s.extract (i + 1) s.size) := by
            unfold valP
            rw [List.map_map]
            conv => rhs; rw [← List.map_id (partsS 46 (s.extract (i + 1) s.size))]
            refine List.map_congr_left fun p hp => ?_
            exact (pr_intI (hall p hp)).1
          rw [this, join_parts]

/-! replies -/
def bs (l : List UInt8) : ByteArray := ⟨l.toArray⟩
def okW : ByteArray := bs [111, 107]
def errW : ByteArray := bs [101, 114, 114, 111, 114]
def faultL : List ByteArray := [bs [111, 107], bs [98, 97, 100, 97, 114, 103], bs [114, 97, 110, 103, 101], bs [115, 121, 110, 116, 97, 120], bs [102, 111, 114, 109], bs [116, 111, 111, 98, 105, 103], bs [111, 118, 101, 114, 102, 108, 111, 119], bs [110, 111, 110, 111, 100, 101],
  bs [110, 111, 101, 100, 103, 101], bs [110, 111, 112, 97, 116, 104], bs [117, 110, 107, 110, 111, 119, 110], bs [110, 111, 103, 114, 97, 112, 104], bs [110, 111, 98, 117, 105, 108, 100], bs [115, 116, 97, 108, 101], bs [99, 108, 111, 115, 101, 100]]
def isF (f : Int) : Bool := decide (0 ≤ f) && decide (f < 15)
def wordOf (f : Int) : ByteArray := if isF f then faultL.getD f.toNat ByteArray.empty else ByteArray.empty
/-- the fault of a word, and whether it is one -/
def ofW (s : ByteArray) : Int × Bool := if idxI (fun x => decide (x = s)) faultL < 0 then (0, false) else (idxI (fun x => decide (x = s)) faultL, true)
def rightR (r : RepD) : Bool :=
  if r.f ≠ 0 then isF r.f && decide (r.name.size = 0) && decide (r.nums.length + r.rts.length + r.words.length = 0)
  else wordB r.name && r.words.all wordB && r.rts.all (fun x => !negR x)
def eqW (s : ByteArray) : ByteArray := ⟨#[61]⟩ ++ s
def toksR (r : RepD) : List ByteArray := okW :: r.name :: (r.nums.map printI ++ r.rts.map routeT ++ r.words.map eqW)
def printR (r : RepD) : ByteArray := if rightR r = false then ByteArray.empty else if r.f ≠ 0 then joinB 32 [errW, wordOf r.f] else joinB 32 (toksR r)

/-- one more part of a line: where it is read, and whether it is one -/
def partR (at' : Nat) (r : RepD) (s : ByteArray) : Nat × RepD × Bool :=
  if at' = 0 ∧ (parseI s).2 = 0 then (0, { r with nums := r.nums ++ [(parseI s).1] }, true)
  else if at' ≤ 1 ∧ (parseRt s).2 = true then (1, { r with rts := r.rts ++ [(parseRt s).1] }, true)
  else if s.data.toList.head? = some 61 then (2, { r with words := r.words ++ [s.extract 1 s.size] }, wordB (s.extract 1 s.size))
  else (2, { r with words := r.words ++ [s] }, false)
def foldR : Nat → RepD → List ByteArray → Option RepD
  | _, r, [] => some r
  | a, r, s :: l => if (partR a r s).2.2 then foldR (partR a r s).1 (partR a r s).2.1 l else none
def parseR (s : ByteArray) : RepD × Int :=
  match partsS 32 s with
  | [a, b] => if a = errW then (if (ofW b).2 && decide ((ofW b).1 ≠ 0) then ({ rep0 with f := (ofW b).1 }, 0) else (rep0, 3))
    else if a = okW ∧ wordB b then ({ rep0 with name := b }, 0) else (rep0, 3)
  | a :: b :: l => if a = okW ∧ wordB b then (match foldR 0 { rep0 with name := b } l with | some r => (r, 0) | none => (rep0, 3)) else (rep0, 3)
  | _ => (rep0, 3)

end Go.Proofs.YtelcmkccfjdmjaaGreatDoor
