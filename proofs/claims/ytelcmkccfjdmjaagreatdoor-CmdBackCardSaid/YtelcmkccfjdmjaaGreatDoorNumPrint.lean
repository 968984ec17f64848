/-
  Walks: the digits of a number, num.Print and its reference; numbers up to a limit.
  The walk of the reference's digits.
-/
import Derived.Test.YtelcmkccfjdmjaaGreatDoorProg
import Derived.Test.YtelcmkccfjdmjaaGreatDoorNum
import Derived.Lib.ItoaMem
namespace Go.Proofs.YtelcmkccfjdmjaaGreatDoor
open Go.Proofs Go.RowKit Go.Shelf Go.Sort

theorem tabIs_go {P : Program} {w w' : World} {name : String} {k : IntKind} {zs : List Int} (h : Lib.TabIs P w name k zs) (hb : Below w.heap.size w w') : Lib.TabIs P w' name k zs := by
  unfold Lib.TabIs World.var? at *
  cases hg : P.globalNamed name with
  | none => simp [hg] at h
  | some g =>
    simp only [hg, Option.bind_some] at h ⊢
    have hlt : g < w.heap.size := by
      rcases Nat.lt_or_ge g w.heap.size with h' | h'
      · exact h'
      · rw [Array.getElem?_eq_none h'] at h; simp at h
    rw [hb.block g hlt]
    exact h

theorem holds_zero0 (w : World) (T : TypeId) (nd : Nat) (hs : nd ≤ 24) : Holds (fun (b : UInt8) => Value.int .u8 (b.toNat : Int)) (w.alloc (.cells Lib.zeros24 T)) w.heap.size 0 (Array.replicate nd (0 : UInt8)) := fun j hj => by
  have hj' : j < nd := by simpa using hj
  refine ⟨?_, World.frozen?_alloc_new _ _ _ _⟩
  rw [World.cell?_alloc_new, Nat.zero_add, Lib.zeros24_at _ (by omega), getElem!_pos _ j hj]
  simp

theorem below_grow (w : World) (os : Array Obj) (k : Nat) : Below w.heap.size w (grow (w.drewN k) os) :=
  ⟨rfl, rfl, rfl, by simp [grow], fun j hj => by simp [grow, Array.getElem?_append, hj]⟩

theorem below_fin (w : World) (o : Obj) (dk : Array UInt8) (k : Nat) : Below w.heap.size w ((putRow (fun (b : UInt8) => Value.int .u8 (b.toNat : Int)) (w.alloc o) w.heap.size 0 dk).drewN k) := by
  rw [alloc_eq_grow]
  obtain ⟨os', _, e⟩ := putRow_grow_new (fun (b : UInt8) => Value.int .u8 (b.toNat : Int)) w #[o] w.heap.size 0 dk (Nat.le_refl _)
  rw [e]
  exact below_grow w os' k

abbrev Pow10 (w : World) : Prop := Lib.TabIs Tryz.prog w Tryz.pow10N .u64 Lib.pow10Tab

set_option maxHeartbeats 4000000 in
set_option maxRecDepth 100000 in
theorem fmtU_any (u : Nat) (hu64 : u < 18446744073709551616) (w : World) (htab : Pow10 w) :
    Calls Tryz.prog 132 #[.int .u64 u, .int .i64 10] w fun e w' => e = .returned (.string ⟨(Lib.decDigits u).toArray⟩) ∧ Below w.heap.size w w' := by
  by_cases hs : u < 100
  · have HS := Lib.hid (fun W => Tryz.internal_strconv_small u hs W)
    go_enter Tryz.func132, Tryz.ntmps132
    go_wp2_with (go_at_call 166; refine (HS.out _).mono ?_; rintro e w' ⟨rfl, rfl⟩)
    go_ret
    exact ⟨rfl, Below.refl _ _⟩
  · have hu1 : 1 ≤ u := by omega
    have hnd20 : Lib.nDigits u ≤ 20 := Lib.nDigits_le20 u hu64
    have hal : Tryz.prog.arrayLen 200 = 24 := by simp [Program.arrayLen, Tryz.underlying200]
    have hsl1 : ∀ W, (Instr.sliceAt 200 (.pointer (some ⟨w.heap.size, 0, none⟩)) none (some (.int .i64 (Lib.nDigits u : Int))) none).run Tryz.prog W = .ok (.slice (some ⟨w.heap.size, 0, none⟩) (Lib.nDigits u) 24) W := fun W => by
      rw [run_sliceAt_array_h W 200 ⟨w.heap.size, 0, none⟩ (by simp [Program.arrayLen, Program.elem, Tryz.underlying200]) .i64 (Lib.nDigits u : Int) (by omega) (by rw [hal]; omega)]
      go_simp
    have hH0 := holds_zero0 w 200 (Lib.nDigits u) (by omega)
    have hfmt := Tryz.internal_strconv_formatBase10 w.heap.size 0 24 u (Array.replicate (Lib.nDigits u) 0) (w.alloc (.cells Lib.zeros24 200)) hH0 (by rw [Array.size_replicate]; exact Lib.lt_pow_nDigits u) hu64 (by rw [Array.size_replicate]; omega)
    rw [Array.size_replicate] at hfmt
    have HH0 := Lib.hid hH0
    have HF := Lib.hid hfmt
    have HN := Lib.hid (fun o => Tryz.internal_strconv_numDigits u hu1 hu64 (w.alloc o) (Lib.tabIs_alloc htab o))
    clear hH0 hal hfmt htab
    go_enter Tryz.func132, Tryz.ntmps132
    go_wp2_with (go_at_call 167; refine (HN.out _).mono ?_; rintro e w' ⟨rfl, rfl⟩)
    go_at_call 168
    refine HF.out.mono ?_
    rintro e w' ⟨rfl, k, v', dk, rfl, hF⟩
    have hcv : (convert 113 9 (.slice (some ⟨w.heap.size, 0, none⟩) (Lib.nDigits u) 24)).run Tryz.prog ((putRow (fun (b : UInt8) => Value.int .u8 (b.toNat : Int)) (w.alloc (.cells Lib.zeros24 200)) w.heap.size 0 dk).drewN k) = .ok (.string ⟨(Lib.decDigits u).toArray⟩) ((putRow (fun (b : UInt8) => Value.int .u8 (b.toNat : Int)) (w.alloc (.cells Lib.zeros24 200)) w.heap.size 0 dk).drewN k) := by
      have h := run_convert_bytes_back (P := Tryz.prog) ((putRow (fun (b : UInt8) => Value.int .u8 (b.toNat : Int)) (w.alloc (.cells Lib.zeros24 200)) w.heap.size 0 dk).drewN k) 113 9 5 ⟨w.heap.size, 0, none⟩ 24 (Lib.decDigits u) Tryz.underlying113 Tryz.underlying5 Tryz.underlying9 (fun j hj => by
        rw [Lib.row_is_numeral hF j hj, Lib.add_plain, World.cell?_drewN]
        exact cell?_putRow (fun (b : UInt8) => Value.int .u8 (b.toNat : Int)) _ w.heap.size 0 _ dk HH0.out (by rw [hF.size, Array.size_replicate]) j (by rw [hF.size]; rw [Lib.decDigits_length] at hj; exact hj))
      rw [Lib.decDigits_length] at h
      exact h
    go_wp2
    go_ret
    exact ⟨rfl, below_fin w _ dk k⟩

theorem Print_any (n : Int) (h0 : 0 ≤ n) (h1 : n < 18446744073709551616) (w : World) (htab : Pow10 w) :
    Calls Tryz.prog 42 #[.int .u64 n] w fun e w' => e = .returned (.string (printI n)) ∧ Below w.heap.size w w' := by
  obtain ⟨u, rfl⟩ := Int.eq_ofNat_of_zero_le h0
  have HF := Lib.hid (fmtU_any u (by omega) w htab)
  have HR := Lib.hid (show printI (u : Int) = ⟨(Lib.decDigits u).toArray⟩ from rfl)
  generalize printI (u : Int) = r at *
  clear htab
  have HG : Calls Tryz.prog 87 #[.int .u64 u, .int .i64 10] w fun e w' => e = .returned (.string ⟨(Lib.decDigits u).toArray⟩) ∧ Below w.heap.size w w' := by
    go_enter Tryz.func87, Tryz.ntmps87
    go_wp2_with (go_at_call 132; refine HF.out.mono ?_; rintro e w' ⟨rfl, hb⟩)
    go_ret
    exact ⟨rfl, hb⟩
  have HG2 := Lib.hid HG
  clear HG
  go_enter Tryz.func42, Tryz.ntmps42
  go_wp2_with (go_at_call 87; refine HG2.out.mono ?_; rintro e w' ⟨rfl, hb⟩)
  go_ret
  exact ⟨by rw [HR.out]; rfl, hb⟩

end Go.Proofs.YtelcmkccfjdmjaaGreatDoor

namespace Go.Proofs.YtelcmkccfjdmjaaGreatDoor
open Go.Proofs Go.RowKit Go.Shelf Go.Sort

theorem step_string_of {P : Program} {w : World} {ops : Array Oper} {o : Oper} {a : Act} {K : Act → World → Prop} {Q : Exit → Act → World → Prop} {F : Prop} (hgd : o.guard = none) (src dst : TypeId) (x : Operand)
    (ho : o.op = .convert src dst x) (E : TypeId) (l : List UInt8) (ao : Option Addr) (n cap : Nat) (hn : l.length = n) (hx : a.eval x = .slice ao n cap) (hr : (convert src dst (.slice ao n cap)).run P w = .ok (.string ⟨l.toArray⟩) w)
    (h : K (a.put o.dst (.string ⟨l.toArray⟩)) w) : if Region.wanted o (yielded ops a.tmps) = true then Oper.wp P o a w K Q else F := by
  have hw : Region.wanted o (yielded ops a.tmps) = true := by simp [Region.wanted, hgd]
  rw [if_pos hw]
  unfold Oper.wp
  simp [ho, execOp, hx, hr, Result.andThen]
  exact h

theorem digit_byte (d : Nat) (h : d < 10) : ∃ c : UInt8, (c.toNat : Int) = 48 + (d : Int) ∧ UInt8.ofNat (48 + d) = c := by
  refine ⟨_, ?_, rfl⟩
  have : (UInt8.ofNat (48 + d)).toNat = 48 + d := by rw [UInt8.toNat_ofNat']; omega
  rw [this]
  omega

set_option maxHeartbeats 4000000 in
set_option maxRecDepth 100000 in
theorem refPrint_nat : ∀ (u : Nat), u < 18446744073709551616 → ∀ w : World,
    Calls Tryz.prog 46 #[.int .u64 u] w fun e w' => e = .returned (.string ⟨(Lib.decDigits u).toArray⟩) ∧ Below w.heap.size w w' := by
  intro u
  induction u using Nat.strongRecOn with
  | _ u ih =>
    intro hu w
    by_cases hs : u < 10
    · rw [Lib.decDigits_one hs]
      obtain ⟨c, hc, hc2⟩ := digit_byte u hs
      rw [hc2]
      clear hc2 ih
      go_enter Tryz.func46, Tryz.ntmps46
      go_wp2_with ((with_reducible refine wpList_string_of 5 [c] (some ⟨w.heap.size, 0, none⟩) 1 1 ?_ ?_ ?_ Tryz.underlying113 Tryz.underlying9 Tryz.underlying5 ?_); (· rfl); (· rfl); (· simp only [List.map_cons, List.map_nil, hc]; exact cel_new _ _ _ _))
      go_ret
      exact ⟨rfl, Below.of_al _ _⟩
    · have HI := Lib.hid (fun W => ih (u / 10) (by omega) (by omega) W)
      have hsz : (⟨(Lib.decDigits (u / 10)).toArray⟩ : ByteArray).size ≤ 20 := by
        have h1 := Lib.nDigits_le20 (u / 10) (by omega)
        rw [← Lib.decDigits_length] at h1
        exact h1
      have HD := Lib.hid (show (⟨(Lib.decDigits u).toArray⟩ : ByteArray) = ⟨(Lib.decDigits (u / 10)).toArray⟩ ++ ⟨#[UInt8.ofNat (48 + u % 10)]⟩ by
        apply Go.WideShapes.bytes_inj
        rw [Lib.decDigits, dif_neg hs]
        simp)
      obtain ⟨c, hc, hc2⟩ := digit_byte (u % 10) (by omega)
      rw [hc2] at HD
      clear hc2 ih
      have hq : Int.tdiv (u : Int) 10 = ((u / 10 : Nat) : Int) := by rw [Int.tdiv_eq_ediv_of_nonneg (by omega)]; omega
      have hr : Int.tmod (u : Int) 10 = ((u % 10 : Nat) : Int) := by rw [Int.tmod_eq_emod_of_nonneg (by omega)]; omega
      have hm : u % 10 < 10 := by omega
      have hd10 : u / 10 < 18446744073709551616 := by omega
      generalize (⟨(Lib.decDigits u).toArray⟩ : ByteArray) = D at *
      generalize (⟨(Lib.decDigits (u / 10)).toArray⟩ : ByteArray) = D2 at *
      generalize u / 10 = q at *
      generalize u % 10 = m at *
      have v1 : IntKind.u64.wrap (q : Int) = (q : Int) := IntWalk.u64_in _ (by omega)
      have v2 : IntKind.u64.wrap (m : Int) = (m : Int) := IntWalk.u64_in _ (by omega)
      have v3 : IntKind.u64.wrap (48 + (m : Int)) = 48 + (m : Int) := IntWalk.u64_in _ (by omega)
      have v4 : IntKind.u8.wrap (48 + (m : Int)) = 48 + (m : Int) := by rw [IntKind.wrap_u8]; omega
      have HCV : ∀ (W : World) (b : Nat), W.cell? ⟨b, 0, none⟩ = some (.int .u8 (48 + (m : Int))) → (convert 113 9 (.slice (some ⟨b, 0, none⟩) 1 1)).run Tryz.prog W = .ok (.string ⟨#[c]⟩) W := by
        intro W b hcell
        rw [← hc] at hcell
        exact run_convert_bytes_back (P := Tryz.prog) W 113 9 5 ⟨b, 0, none⟩ 1 [c] Tryz.underlying113 Tryz.underlying5 Tryz.underlying9 (fun j hj => by
          have : j = 0 := by simpa using hj
          subst this
          rw [Lib.add_plain]
          exact hcell)
      have HX := Lib.hid (fun (W' : World) (hb : Below (w.alloc (Obj.cells #[.int .u8 (48 + (m : Int))] 5)).drew.heap.size (w.alloc (Obj.cells #[.int .u8 (48 + (m : Int))] 5)).drew W') =>
        (cell_later hb (by go_simp) : W'.cell? ⟨w.heap.size, 0, none⟩ = some (.int .u8 (48 + (m : Int)))))
      go_enter Tryz.func46, Tryz.ntmps46
      go_wp2
      go_region_with (first
        | (go_at_call 46; refine (HI.out _).mono ?_; rintro e w1 ⟨rfl, hb1⟩; first | (have hx := HX.out _ hb1) | skip))
      all_goals
        go_wp2
        go_ret
        exact ⟨by rw [HD.out]; rfl, by repeat (first | exact Below.refl _ _ | refine Below.al ?_ _ | refine Below.dr ?_ _ | refine Below.drew ?_ | assumption | (refine Below.st ?_ (by assumption)))⟩

theorem refPrint_any (n : Int) (h0 : 0 ≤ n) (h1 : n < 18446744073709551616) (w : World) :
    Calls Tryz.prog 46 #[.int .u64 n] w fun e w' => e = .returned (.string (printI n)) ∧ Below w.heap.size w w' := by
  obtain ⟨u, rfl⟩ := Int.eq_ofNat_of_zero_le h0
  exact refPrint_nat u (by omega) w

end Go.Proofs.YtelcmkccfjdmjaaGreatDoor
