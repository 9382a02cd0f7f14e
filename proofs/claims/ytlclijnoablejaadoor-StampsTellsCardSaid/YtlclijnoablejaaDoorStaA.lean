/-
  Boards in memory; which are rows of so many digits, and which are boards.
-/
import Derived.Test.YtlclijnoablejaaDoorStaP
import Derived.Test.YtlclijnoablejaaDoorSyG
import Derived.Test.YtlclijnoablejaaDoorApp
set_option linter.unusedVariables false
set_option linter.unusedSimpArgs false
namespace Go.Proofs.YtlclijnoablejaaDoor
open Go.RowKit

/-- A slice that reads as a row, and what is known of its capacity. -/
structure RowC (w : World) (A : Option Addr) (c : Nat) (r : List Int) : Prop where
  row : Row w A r.length (IVal r)
  le : r.length ≤ c
  cap : c ≤ 9223372036854775807
  nil : A = none → c = 0
theorem RowC.up {w w' : World} {A : Option Addr} {c : Nat} {r : List Int} (h : RowC w A c r) (u : Up w w') : RowC w' A c r := ⟨h.row.up u, h.le, h.cap, h.nil⟩
theorem RowC.len {w : World} {A : Option Addr} {c : Nat} {r : List Int} (h : RowC w A c r) : r.length ≤ 9223372036854775807 := Nat.le_trans h.le h.cap
/-- A slice of slices that reads as rows. -/
def BRow (w : World) (A : Option Addr) (L : List (List Int)) : Prop := ∀ k, k < L.length → ∃ b off A' c', A = some ⟨b, off, none⟩ ∧ w.cell? ⟨b, off + k, none⟩ = some (.slice A' (L.getD k []).length c') ∧ RowC w A' c' (L.getD k [])
theorem BRow.up {w w' : World} {A : Option Addr} {L : List (List Int)} (h : BRow w A L) (u : Up w w') : BRow w' A L := fun k hk => by
  obtain ⟨b, off, A', c', e, hc, hr⟩ := h k hk
  exact ⟨b, off, A', c', e, (u.cell (p := ⟨b, off + k, none⟩) (cell_lt hc)).trans hc, hr.up u⟩
theorem BRow.nil (w : World) (A : Option Addr) : BRow w A [] := fun k hk => absurd hk (Nat.not_lt_zero k)
def rowsB (L : List (List Int)) (k : Int) : Bool := L.all fun r => ((r.length : Int) == k) && fineL r
def fineBd (L : List (List Int)) : Bool := decide (0 < L.length) && decide (L.length < 9) && rowsB L ((L.length : Int) - 1)
theorem rowsB_at {L : List (List Int)} {k : Int} : rowsB L k = true ↔ ∀ j, j < L.length → ((L.getD j []).length : Int) = k ∧ fineL (L.getD j []) = true := by
  unfold rowsB
  rw [List.all_eq_true]
  constructor
  · intro h j hj
    have hm : L.getD j [] ∈ L := by rw [List.getD_eq_getElem?_getD, List.getElem?_eq_getElem hj]; exact List.getElem_mem _
    have := h _ hm
    rw [Bool.and_eq_true, beq_iff_eq] at this
    exact this
  · intro h r hr
    obtain ⟨j, hj, rfl⟩ := List.getElem_of_mem hr
    have := h j hj
    rw [List.getD_eq_getElem?_getD, List.getElem?_eq_getElem hj] at this
    rw [Bool.and_eq_true, beq_iff_eq]
    exact this


set_option maxHeartbeats 400000 in
theorem rows_any (L : List (List Int)) (A : Option Addr) (c : Nat) (k : Int) (w : World) (hL : L.length ≤ 9223372036854775807) (hb : BRow w A L) :
    Calls Tryd.prog 25 #[.slice A L.length c, .int .i64 k] w fun e w' => e = .returned (.bool (rowsB L k)) ∧ w = w' := by
  have HB := Lib.hid hb
  have HR : Hid (rowsB L k = true ↔ ∀ j, j < L.length → ((L.getD j []).length : Int) = k ∧ fineL (L.getD j []) = true) := Lib.hid rowsB_at
  obtain ⟨r, hr⟩ : ∃ r, rowsB L k = r := ⟨_, rfl⟩
  rw [hr] at HR ⊢
  clear hb hr
  go_enter Tryd.func25, Tryd.ntmps25
  go_wp2_with fail
  go_loop [9] (fun t => ∃ j : Nat, j ≤ L.length ∧ t = .int .i64 j ∧ Hid (∀ i, i < j → ((L.getD i []).length : Int) = k ∧ fineL (L.getD i []) = true)) (fun t => L.length - (intOf t).toNat)
  case atStart => exact ⟨0, by omega, rfl, Lib.hid (fun i hi => absurd hi (Nat.not_lt_zero i))⟩
  case round =>
    obtain ⟨j, hj, rfl, HK⟩ := hrel
    by_cases hlt : j < L.length
    · have hji : (j : Int) < L.length := by omega
      have hj0 : (0 : Int) ≤ j := by omega
      obtain ⟨b, off, A', c', rfl, hc, hrc⟩ := HB.out j hlt
      have HF := Lib.hid (fine_any (L.getD j []) A' c' w hrc.len hrc.row)
      have hlm : ((L.getD j []).length : Int) ≤ 9223372036854775807 := by have := hrc.len; omega
      clear hrc
      by_cases hlk : ((L.getD j []).length : Int) = k
      · have hlk1 : (((L.getD j []).length : Int) != k) = false := by rw [hlk]; simp
        cases hff : fineL (L.getD j [])
        · have HN := Lib.hid (show r = false from by
            cases r
            · rfl
            · have := (HR.out.1 rfl j hlt).2
              rw [hff] at this; cases this)
          rw [hff] at HF
          clear hff hlk
          generalize (L.getD j []).length = n at *
          go_wp2_with fail
          refine HF.out.mono ?_
          rintro e w2 ⟨rfl, rfl⟩
          go_wp2_with fail
          go_ret
          exact ⟨by rw [HN.out]; rfl, rfl⟩
        · have HK2 : Hid (∀ i, i < j + 1 → ((L.getD i []).length : Int) = k ∧ fineL (L.getD i []) = true) := Lib.hid (fun i hi => by
            by_cases h : i < j
            · exact HK.out i h
            · obtain rfl : i = j := by omega
              exact ⟨hlk, hff⟩)
          rw [hff] at HF
          clear hff hlk
          generalize (L.getD j []).length = n at *
          go_wp2_with fail
          refine HF.out.mono ?_
          rintro e w2 ⟨rfl, rfl⟩
          go_wp2_with fail
          go_round
          case rel => exact ⟨j + 1, by omega, by go_num, HK2⟩
          case measure => simp [intOf]; omega
      · have hlk1 : (((L.getD j []).length : Int) != k) = true := by simpa using hlk
        have HN := Lib.hid (show r = false from by
          cases r
          · rfl
          · exact absurd (HR.out.1 rfl j hlt).1 hlk)
        clear hlk
        generalize (L.getD j []).length = n at *
        go_wp2_with fail
        go_ret
        exact ⟨by rw [HN.out]; rfl, rfl⟩
    · obtain rfl : j = L.length := by omega
      clear hlt
      have HN := Lib.hid (show r = true from HR.out.2 HK.out)
      go_wp2_with fail
      go_ret
      exact ⟨by rw [HN.out]; rfl, rfl⟩

end Go.Proofs.YtlclijnoablejaaDoor
