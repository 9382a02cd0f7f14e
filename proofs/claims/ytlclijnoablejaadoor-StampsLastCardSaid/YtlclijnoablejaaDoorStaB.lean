/-
  The document's rows; boards; the same boards.
-/
import Derived.Test.YtlclijnoablejaaDoorStaA
set_option linter.unusedVariables false
set_option linter.unusedSimpArgs false
namespace Go.Proofs.YtlclijnoablejaaDoor
open Go.RowKit

set_option maxHeartbeats 400000 in
theorem rrows_any (L : List (List Int)) (A : Option Addr) (c : Nat) (k : Int) (w : World) (hL : L.length ≤ 9223372036854775807) (hb : BRow w A L) :
    Calls Tryd.prog 14 #[.slice A L.length c, .int .i64 k] w fun e w' => e = .returned (.bool (rowsB L k)) ∧ w = w' := by
  have HB := Lib.hid hb
  have HR : Hid (rowsB L k = true ↔ ∀ j, j < L.length → ((L.getD j []).length : Int) = k ∧ fineL (L.getD j []) = true) := Lib.hid rowsB_at
  obtain ⟨r, hr⟩ : ∃ r, rowsB L k = r := ⟨_, rfl⟩
  rw [hr] at HR ⊢
  clear hb hr
  go_enter Tryd.func14, Tryd.ntmps14
  go_wp2_with fail
  go_loop [5] (fun t => ∃ j : Nat, j ≤ L.length ∧ t = .int .i64 j ∧ Hid (∀ i, i < j → ((L.getD i []).length : Int) = k ∧ fineL (L.getD i []) = true)) (fun t => L.length - (intOf t).toNat)
  case atStart => exact ⟨0, by omega, rfl, Lib.hid (fun i hi => absurd hi (Nat.not_lt_zero i))⟩
  case round =>
    obtain ⟨j, hj, rfl, HK⟩ := hrel
    by_cases hlt : j < L.length
    · have hji : (j : Int) < L.length := by omega
      have hj0 : (0 : Int) ≤ j := by omega
      obtain ⟨b, off, A', c', rfl, hc, hrc⟩ := HB.out j hlt
      have HF := Lib.hid (rfine_any (L.getD j []) A' c' w hrc.len hrc.row)
      have hlm : ((L.getD j []).length : Int) ≤ 9223372036854775807 := by have := hrc.len; omega
      clear hrc
      by_cases hlk : ((L.getD j []).length : Int) = k
      · have hlk1 : (((L.getD j []).length : Int) != k) = false := by rw [hlk]; simp
        cases hff : fineL (L.getD j [])
        · have HN := Lib.hid (show r = false from by
            cases r
            · rfl
            · have := (HR.out.1 rfl j hlt).2
              rw [hff] at this; cases this)
          rw [hff] at HF
          clear hff hlk
          generalize (L.getD j []).length = n at *
          go_wp2_with fail
          refine HF.out.mono ?_
          rintro e w2 ⟨rfl, rfl⟩
          go_wp2_with fail
          go_ret
          exact ⟨by rw [HN.out]; rfl, rfl⟩
        · have HK2 : Hid (∀ i, i < j + 1 → ((L.getD i []).length : Int) = k ∧ fineL (L.getD i []) = true) := Lib.hid (fun i hi => by
            by_cases h : i < j
            · exact HK.out i h
            · obtain rfl : i = j := by omega
              exact ⟨hlk, hff⟩)
          rw [hff] at HF
          clear hff hlk
          generalize (L.getD j []).length = n at *
          go_wp2_with fail
          refine HF.out.mono ?_
          rintro e w2 ⟨rfl, rfl⟩
          go_wp2_with fail
          go_round
          case rel => exact ⟨j + 1, by omega, by go_num, HK2⟩
          case measure => simp [intOf]; omega
      · have hlk1 : (((L.getD j []).length : Int) != k) = true := by simpa using hlk
        have HN := Lib.hid (show r = false from by
          cases r
          · rfl
          · exact absurd (HR.out.1 rfl j hlt).1 hlk)
        clear hlk
        generalize (L.getD j []).length = n at *
        go_wp2_with fail
        go_ret
        exact ⟨by rw [HN.out]; rfl, rfl⟩
    · obtain rfl : j = L.length := by omega
      clear hlt
      have HN := Lib.hid (show r = true from HR.out.2 HK.out)
      go_wp2_with fail
      go_ret
      exact ⟨by rw [HN.out]; rfl, rfl⟩

set_option maxHeartbeats 400000 in
theorem sfine_any (L : List (List Int)) (A : Option Addr) (c : Nat) (w : World) (hL : L.length ≤ 9223372036854775807) (hb : BRow w A L) :
    Calls Tryd.prog 10 #[.slice A L.length c] w fun e w' => e = .returned (.bool (fineBd L)) ∧ w = w' := by
  have HR := Lib.hid (rows_any L A c ((L.length : Int) - 1) w hL hb)
  have hl2 : (L.length : Int) ≤ 9223372036854775807 := by omega
  have hl0 : (0 : Int) ≤ (L.length : Int) := by omega
  by_cases h0 : 0 < L.length
  · have h1 : (1 : Int) ≤ L.length := by omega
    by_cases h9 : L.length < 9
    · have h8 : (L.length : Int) ≤ 8 := by omega
      have e : fineBd L = rowsB L ((L.length : Int) - 1) := by unfold fineBd; rw [decide_eq_true h0, decide_eq_true h9]; rfl
      rw [e]
      clear e h9 hb
      generalize rowsB L ((L.length : Int) - 1) = r at *
      generalize L.length = n at *
      go_enter Tryd.func10, Tryd.ntmps10
      go_wp2_with fail
      refine HR.out.mono ?_
      rintro e w2 ⟨rfl, rfl⟩
      go_wp2_with fail
      go_ret
      exact ⟨rfl, rfl⟩
    · have h8 : (9 : Int) ≤ L.length := by omega
      have e : fineBd L = false := by unfold fineBd; rw [decide_eq_false h9]; simp
      rw [e]
      clear e h9 hb HR
      generalize L.length = n at *
      go_enter Tryd.func10, Tryd.ntmps10
      go_wp2_with fail
      go_ret
      exact ⟨rfl, rfl⟩
  · have hn : L.length = 0 := by omega
    have e : fineBd L = false := by unfold fineBd; rw [decide_eq_false h0]; rfl
    rw [e, hn]
    clear e h0 hb HR hl2 hl0 hn
    go_enter Tryd.func10, Tryd.ntmps10
    go_wp2_with fail
    go_ret
    exact ⟨rfl, rfl⟩

set_option maxHeartbeats 400000 in
theorem rsfine_any (L : List (List Int)) (A : Option Addr) (c : Nat) (w : World) (hL : L.length ≤ 9223372036854775807) (hb : BRow w A L) :
    Calls Tryd.prog 11 #[.slice A L.length c] w fun e w' => e = .returned (.bool (fineBd L)) ∧ w = w' := by
  have HR := Lib.hid (rrows_any L A c ((L.length : Int) - 1) w hL hb)
  have hl2 : (L.length : Int) ≤ 9223372036854775807 := by omega
  have hl0 : (0 : Int) ≤ (L.length : Int) := by omega
  by_cases h0 : 0 < L.length
  · have h1 : (1 : Int) ≤ L.length := by omega
    by_cases h9 : L.length < 9
    · have h8 : (L.length : Int) ≤ 8 := by omega
      have e : fineBd L = rowsB L ((L.length : Int) - 1) := by unfold fineBd; rw [decide_eq_true h0, decide_eq_true h9]; rfl
      rw [e]
      clear e h9 hb
      generalize rowsB L ((L.length : Int) - 1) = r at *
      generalize L.length = n at *
      go_enter Tryd.func11, Tryd.ntmps11
      go_wp2_with fail
      refine HR.out.mono ?_
      rintro e w2 ⟨rfl, rfl⟩
      go_wp2_with fail
      go_ret
      exact ⟨rfl, rfl⟩
    · have h8 : (9 : Int) ≤ L.length := by omega
      have e : fineBd L = false := by unfold fineBd; rw [decide_eq_false h9]; simp
      rw [e]
      clear e h9 hb HR
      generalize L.length = n at *
      go_enter Tryd.func11, Tryd.ntmps11
      go_wp2_with fail
      go_ret
      exact ⟨rfl, rfl⟩
  · have hn : L.length = 0 := by omega
    have e : fineBd L = false := by unfold fineBd; rw [decide_eq_false h0]; rfl
    rw [e, hn]
    clear e h0 hb HR hl2 hl0 hn
    go_enter Tryd.func11, Tryd.ntmps11
    go_wp2_with fail
    go_ret
    exact ⟨rfl, rfl⟩

def threadB (n : Nat) (t : Int) : Bool := decide (0 ≤ t) && decide (t < n)
theorem thread_any (n : Nat) (A : Option Addr) (c : Nat) (t : Int) (w : World) (hn : n ≤ 9223372036854775807) :
    Calls Tryd.prog 26 #[.slice A n c, .int .i64 t] w fun e w' => e = .returned (.bool (threadB n t)) ∧ w = w' := by
  have hn2 : (n : Int) ≤ 9223372036854775807 := by omega
  by_cases h0 : 0 ≤ t
  · by_cases h1 : t < n
    · rw [show threadB n t = true from by unfold threadB; rw [decide_eq_true h0, decide_eq_true h1]; rfl]
      go_enter Tryd.func26, Tryd.ntmps26
      go_wp2_with fail
      go_ret
      exact ⟨rfl, rfl⟩
    · rw [show threadB n t = false from by unfold threadB; rw [decide_eq_false h1]; simp]
      have h1' : (n : Int) ≤ t := by omega
      go_enter Tryd.func26, Tryd.ntmps26
      go_wp2_with fail
      go_ret
      exact ⟨rfl, rfl⟩
  · rw [show threadB n t = false from by unfold threadB; rw [decide_eq_false h0]; rfl]
    have h0' : t < 0 := by omega
    go_enter Tryd.func26, Tryd.ntmps26
    go_wp2_with fail
    go_ret
    exact ⟨rfl, rfl⟩

def farB (L : List (List Int)) : Bool := (L.any fun r => decide (40 < r.length)) || decide (40 < L.length)
set_option maxHeartbeats 400000 in
theorem far_any (L : List (List Int)) (A : Option Addr) (c : Nat) (w : World) (hL : L.length ≤ 9223372036854775807) (hb : BRow w A L) :
    Calls Tryd.prog 5 #[.slice A L.length c] w fun e w' => e = .returned (.bool (farB L)) ∧ w = w' := by
  have HB := Lib.hid hb
  have HR : Hid ((∃ j, j < L.length ∧ 40 < (L.getD j []).length) → farB L = true) := Lib.hid (fun ⟨j, hj, h⟩ => by
    unfold farB
    rw [Bool.or_eq_true]
    refine .inl (List.any_eq_true.2 ⟨L.getD j [], ?_, decide_eq_true h⟩)
    rw [List.getD_eq_getElem?_getD, List.getElem?_eq_getElem hj]; exact List.getElem_mem _)
  have HS : Hid ((∀ j, j < L.length → (L.getD j []).length ≤ 40) → farB L = decide (40 < (L.length : Int))) := Lib.hid (fun h => by
    unfold farB
    have : (L.any fun r => decide (40 < r.length)) = false := by
      rw [List.any_eq_false]
      intro r hr
      obtain ⟨j, hj, rfl⟩ := List.getElem_of_mem hr
      have := h j hj
      rw [List.getD_eq_getElem?_getD, List.getElem?_eq_getElem hj] at this
      have h2 : L[j].length ≤ 40 := this
      simp; omega
    rw [this, Bool.false_or]
    by_cases h4 : 40 < L.length
    · rw [decide_eq_true h4, decide_eq_true (by omega)]
    · rw [decide_eq_false h4, decide_eq_false (by omega)])
  generalize farB L = r at HR HS ⊢
  clear hb
  have hl2 : (L.length : Int) ≤ 9223372036854775807 := by omega
  go_enter Tryd.func5, Tryd.ntmps5
  go_wp2_with fail
  go_loop [3] (fun t => ∃ j : Nat, j ≤ L.length ∧ t = .int .i64 j ∧ Hid (∀ i, i < j → (L.getD i []).length ≤ 40)) (fun t => L.length - (intOf t).toNat)
  case atStart => exact ⟨0, by omega, rfl, Lib.hid (fun i hi => absurd hi (Nat.not_lt_zero i))⟩
  case round =>
    obtain ⟨j, hj, rfl, HK⟩ := hrel
    by_cases hlt : j < L.length
    · have hji : (j : Int) < L.length := by omega
      have hj0 : (0 : Int) ≤ j := by omega
      obtain ⟨b, off, A', c', rfl, hc, hrc⟩ := HB.out j hlt
      have hlm : ((L.getD j []).length : Int) ≤ 9223372036854775807 := by have := hrc.len; omega
      clear hrc
      by_cases h4 : 40 < (L.getD j []).length
      · have HN := Lib.hid (HR.out ⟨j, hlt, h4⟩)
        have h4i : (40 : Int) < (L.getD j []).length := by omega
        clear h4
        generalize (L.getD j []).length = n at *
        go_wp2_with fail
        go_ret
        exact ⟨by rw [HN.out]; rfl, rfl⟩
      · have HK2 : Hid (∀ i, i < j + 1 → (L.getD i []).length ≤ 40) := Lib.hid (fun i hi => by
          by_cases h : i < j
          · exact HK.out i h
          · obtain rfl : i = j := by omega
            omega)
        have h4i : ((L.getD j []).length : Int) ≤ 40 := by omega
        clear h4
        generalize (L.getD j []).length = n at *
        go_wp2_with fail
        go_round
        case rel => exact ⟨j + 1, by omega, by go_num, HK2⟩
        case measure => simp [intOf]; omega
    · obtain rfl : j = L.length := by omega
      clear hlt
      have HN := Lib.hid (HS.out HK.out)
      go_wp2_with fail
      go_ret
      exact ⟨by rw [HN.out]; rfl, rfl⟩

end Go.Proofs.YtlclijnoablejaaDoor
