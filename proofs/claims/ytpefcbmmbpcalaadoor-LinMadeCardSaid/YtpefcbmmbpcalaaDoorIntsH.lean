/-
  The document's Ints (as in common/XInts).
-/
import Derived.Test.YtpefcbmmbpcalaaDoorRow
import Derived.Test.YtpefcbmmbpcalaaDoorChecked
import Derived.BigQuiet
set_option linter.unusedVariables false
set_option linter.unusedSimpArgs false
namespace Go.Proofs.YtpefcbmmbpcalaaDoor
open Go.RowKit

theorem list_ext_getD {a b : List Int} (hl : a.length = b.length) (h : ∀ j, j < a.length → a.getD j 0 = b.getD j 0) : a = b := by
  apply List.ext_getElem hl
  intro i h1 h2
  have := h i h1
  rwa [getD_lt h1, getD_lt h2] at this

set_option maxHeartbeats 400000 in
theorem ints_any (a b : List Int) (A B : Option Addr) (c d : Nat) (w : World) (ha : a.length ≤ 9223372036854775807) (hb : b.length ≤ 9223372036854775807)
    (hra : Row w A a.length (IVal a)) (hrb : Row w B b.length (IVal b)) :
    Calls Tryd.prog 11 #[.slice A a.length c, .slice B b.length d] w fun e w' => e = .returned (.bool (decide (a = b))) ∧ Below w.heap.size w w' := by
  by_cases hl : a.length = b.length
  · have HRA := Lib.hid hra
    have HRB := Lib.hid hrb
    have HL := Lib.hid hl
    obtain ⟨n, hn⟩ : ∃ n, a.length = n := ⟨_, rfl⟩
    rw [← hl, hn]
    have HN := Lib.hid hn
    have hnm : n ≤ 9223372036854775807 := by omega
    clear hra hrb hn hl ha hb
    go_enter Tryd.func11, Tryd.ntmps11
    go_wp2_with fail
    go_loopw [5] (fun t wr => ∃ k : Nat, k ≤ n ∧ t = .int .i64 k ∧ Hid (∀ j, j < k → a.getD j 0 = b.getD j 0) ∧ Hid (Below w.heap.size w wr)) (fun t _ => n - (intOf t).toNat)
    case atStart => exact ⟨0, by omega, rfl, Lib.hid (fun j hj => absurd hj (by omega)), Lib.hid (Below.refl _ _)⟩
    case round =>
      obtain ⟨k, hk, rfl, HK, HW⟩ := hrel
      by_cases hlt : k < n
      · obtain ⟨ba, offa, rfl, hca⟩ := HRA.out k (by rw [HN.out]; exact hlt)
        obtain ⟨bb, offb, rfl, hcb⟩ := HRB.out k (by rw [← HL.out, HN.out]; exact hlt)
        have hca := (HW.out.cell (p := ⟨ba, offa + k, none⟩) (cell_lt hca)).trans hca
        have hcb := (HW.out.cell (p := ⟨bb, offb + k, none⟩) (cell_lt hcb)).trans hcb
        unfold IVal at hca hcb
        by_cases heq : a.getD k 0 = b.getD k 0
        · have HK2 := Lib.hid (show ∀ j, j < k + 1 → a.getD j 0 = b.getD j 0 from fun j hj => by
            by_cases hj2 : j < k
            · exact HK.out j hj2
            · obtain rfl : j = k := by omega
              exact heq)
          rw [heq] at hca
          clear heq
          generalize b.getD k 0 = x at *
          go_wp2_with fail
          go_quiet (fail)
          go_wp2_with fail
          go_roundw
          case rel => exact ⟨k + 1, by omega, by go_num, HK2, Lib.hid (below_drewN HW.out _)⟩
          case measure => simp [intOf]; omega
        · have HF := Lib.hid (show decide (a = b) = false from decide_eq_false (fun h => heq (by rw [h])))
          have hne : ((a.getD k 0) != (b.getD k 0)) = true := by rw [bne_iff_ne]; exact heq
          clear heq
          generalize a.getD k 0 = x at *
          generalize b.getD k 0 = y at *
          go_wp2_with fail
          go_quiet (fail)
          go_wp2_with fail
          go_ret
          exact ⟨by rw [HF.out]; rfl, below_drewN HW.out _⟩
      · obtain rfl : k = n := by omega
        have HF := Lib.hid (show decide (a = b) = true from decide_eq_true (list_ext_getD HL.out (fun j hj => HK.out j (by rw [← HN.out]; exact hj))))
        go_wp2_with fail
        go_ret
        exact ⟨by rw [HF.out]; rfl, HW.out⟩
  · rw [decide_eq_false (show a ≠ b from fun h => hl (by rw [h]))]
    have hne : ((a.length : Int) != (b.length : Int)) = true := by rw [bne_iff_ne]; omega
    generalize a.length = n at *
    generalize b.length = m at *
    clear hra hrb hl ha hb
    go_enter Tryd.func11, Tryd.ntmps11
    go_wp2_with fail
    go_ret
    exact ⟨rfl, Below.refl _ _⟩

end Go.Proofs.YtpefcbmmbpcalaaDoor
