/-
  LooseLin's walk.
-/
import Derived.Test.YtpefcbmmbpcalaaAliveLoo
import Derived.Test.YtpefcbmmbpcalaaLinP
import Derived.Test.YtpefcbmmbpcalaaHasT
set_option linter.unusedVariables false
set_option linter.unusedSimpArgs false
namespace Go.Proofs.Ytpefcbmmbpcalaa
open Go.RowKit

theorem und_le (l : List OpD) (d : Nat) : und l d ≤ l.length := by
  unfold und undK
  have := List.countP_le_length (p := fun i => !hasB d i) (l := List.range l.length)
  rwa [List.length_range] at this
theorem capS_mono {a b : Nat} (h : a ≤ b) : capS a ≤ capS b := by
  induction b with
  | zero => have : a = 0 := by omega
            subst this; exact Nat.le_refl _
  | succ b ih =>
    by_cases he : a = b + 1
    · subst he; exact Nat.le_refl _
    · refine Nat.le_trans (ih (by omega)) ?_
      show capS b ≤ 1 + (b + 1) * capS b
      have : capS b ≤ (b + 1) * capS b := Nat.le_mul_of_pos_left _ (by omega)
      omega
theorem capS_ten : capS 10 ≤ 1000000000 := by decide

set_option maxRecDepth 10000 in
set_option maxHeartbeats 4000000 in
theorem looseLin_any (l : List OpD) (A : Option Addr) (c : Nat) (b : Int) (w : World) (hb0 : 0 ≤ b) (hb1 : b ≤ 255) (hlen : l.length ≤ 9223372036854775807) (hr : OpRow w A l) :
    Calls Try.prog 5 #[.slice A l.length c, .int .u8 b] w fun e w' => e = .returned (.bool true) ∧ Up w w' := by
  have HAL := Lib.hid (fun W => alive22_any W)
  by_cases h10 : l.length ≤ 10
  · have HRW := Lib.hid (fun W (u : Up w W) => hr.up u)
    have HR0 := Lib.hid hr
    have hl10 : (l.length : Int) ≤ 10 := by omega
    have HREG := Lib.hid (regular_any l A c b w (by omega) hr)
    have HSAF := Lib.hid (fun W (u : Up w W) => safe_any l A c b 300 W (by omega) (hr.up u))
    have HHAS := Lib.hid (fun W (u : Up w W) => rhas21_any l A c b W (by omega) (hr.up u) (Nat.le_trans (capS_mono (Nat.le_trans (und_le l 0) h10)) capS_ten))
    have HLR := Lib.hid (fun (h : faultP l = 0) (c : Comp l 0 b) => lin_regular h c)
    have HRS := Lib.hid (fun (h : ∀ j, j < l.length → 0 ≤ (l.getD j op0).val ∧ (l.getD j op0).val ≤ 300) (hreg : regularP l b = true) => regular_safe (l := l) (v := b) (fun o ho => by
      obtain ⟨j, hj, rfl⟩ := List.getElem_of_mem ho
      have := h j hj
      rw [List.getD_eq_getElem?_getD, List.getElem?_eq_getElem hj] at this
      exact this) hreg)
    have HWB := Lib.hid (show IntKind.i64.wrap b = b from IntWalk.i64_in _ (by omega))
    clear hr hlen h10
    go_enter Try.func5, Try.ntmps5
    go_wp2_with fail
    go_loop [6] (fun x => ∃ j : Nat, j ≤ l.length ∧ x = .int .i64 j ∧ Hid (∀ q, q < j → 0 ≤ (l.getD q op0).val ∧ (l.getD q op0).val ≤ 300)) (fun x => l.length - (intOf x).toNat)
    case atStart => exact ⟨0, by omega, rfl, Lib.hid (fun q hq => absurd hq (Nat.not_lt_zero q))⟩
    case round =>
      obtain ⟨j, hj, rfl, HV⟩ := hrel
      by_cases hlt : j < l.length
      · have hji : (j : Int) < l.length := by omega
        have hj0 : (0 : Int) ≤ j := by omega
        obtain ⟨bk, off, rfl, k0, k1, k2, k3, k4⟩ := HR0.out j hlt
        have HVN : Hid (0 ≤ (l.getD j op0).val ∧ (l.getD j op0).val ≤ 300 → ∀ q, q < j + 1 → 0 ≤ (l.getD q op0).val ∧ (l.getD q op0).val ≤ 300) := Lib.hid (fun h q hq => by
          by_cases hqj : q < j
          · exact HV.out q hqj
          · obtain rfl : q = j := by omega
            exact h)
        generalize (l.getD j op0).val = y at *
        clear k0 k1 k2 k4
        by_cases hy0 : y < 0
        · go_wp2_with fail
          refine (HAL.out _).mono ?_
          rintro e w2 ⟨rfl, hu⟩
          have HU := Lib.hid hu
          clear hu
          go_wp2_with fail
          go_ret
          exact ⟨rfl, HU.out⟩
        · have hy0' : 0 ≤ y := by omega
          have hd0 : decide (y < 0) = false := decide_eq_false hy0
          clear hy0
          by_cases hy1 : 300 < y
          · go_wp2_with fail
            refine (HAL.out _).mono ?_
            rintro e w2 ⟨rfl, hu⟩
            have HU := Lib.hid hu
            clear hu
            go_wp2_with fail
            go_ret
            exact ⟨rfl, HU.out⟩
          · have hy1' : y ≤ 300 := by omega
            have HV2 := Lib.hid (HVN.out ⟨hy0', hy1'⟩)
            clear hy1
            go_wp2_with fail
            go_round
            case rel => exact ⟨j + 1, by omega, by go_num, HV2⟩
            case measure => simp [intOf]; omega
      · obtain rfl : j = l.length := by omega
        clear hlt
        have HRS2 := Lib.hid (HRS.out HV.out)
        clear HRS HV
        by_cases hf : faultP l = 0
        · have HLR2 := Lib.hid (HLR.out hf)
          rw [hf] at HREG HSAF
          have HSF : Hid (∀ W, Up w W → Calls Try.prog 15 #[.slice A l.length c, .int .i64 b, .int .i64 300] W fun e w' => e = .returned (.tuple #[.bool (safeP l b 300), .int .i64 0]) ∧ Up W w') := Lib.hid (fun W u => (HSAF.out W u).mono fun e w' ⟨h1, h2⟩ => ⟨by rw [h1]; rfl, h2⟩)
          have HRG : Hid (Calls Try.prog 14 #[.slice A l.length c, .int .i64 b] w fun e w' => e = .returned (.tuple #[.bool (regularP l b), .int .i64 0]) ∧ Up w w') := Lib.hid (HREG.out.mono fun e w' ⟨h1, h2⟩ => ⟨by rw [h1]; rfl, h2⟩)
          clear HREG HSAF HLR hf
          generalize safeP l b 300 = sf at *
          generalize regularP l b = rg at *
          go_wp2_with fail
          refine HRG.out.mono ?_
          rintro e w1 ⟨rfl, hu1⟩
          have HU1 := Lib.hid hu1
          clear hu1
          go_wp2_with fail
          refine (HSF.out _ HU1.out).mono ?_
          rintro e w2 ⟨rfl, hu2⟩
          have HU2 := Lib.hid (HU1.out.trans hu2)
          clear hu2
          go_wp2_with fail
          refine (HHAS.out _ HU2.out).mono ?_
          rintro e w3 ⟨lin, rfl, hiff, hu3⟩
          have HU3 := Lib.hid (HU2.out.trans hu3)
          have HLG : Hid (lin = true → rg = true) := Lib.hid (fun h => HLR2.out (hiff.1 h))
          clear hu3 hiff
          cases rg
          · have hlin : lin = false := by
              cases hh : lin
              · rfl
              · exact absurd (HLG.out hh) (by simp)
            subst hlin
            go_wp2_with fail
            refine (HAL.out _).mono ?_
            rintro e w4 ⟨rfl, hu4⟩
            have HU4 := Lib.hid (HU3.out.trans hu4)
            clear hu4
            go_wp2_with fail
            go_ret
            exact ⟨rfl, HU4.out⟩
          · have hsf : sf = true := HRS2.out rfl
            subst hsf
            cases lin
            all_goals
              go_wp2_with fail
              refine (HAL.out _).mono ?_
              rintro e w4 ⟨rfl, hu4⟩
              have HU4 := Lib.hid (HU3.out.trans hu4)
              clear hu4
              go_wp2_with fail
              go_ret
              exact ⟨rfl, HU4.out⟩
        · have hfb : (faultP l != 0) = true := by rw [bne_iff_ne]; exact hf
          rw [if_neg hf] at HSAF
          clear hf HLR HHAS HRS2
          generalize faultP l = f at *
          go_wp2_with fail
          refine HREG.out.mono ?_
          rintro e w1 ⟨rfl, hu1⟩
          have HU1 := Lib.hid hu1
          clear hu1
          go_wp2_with fail
          refine (HSAF.out _ HU1.out).mono ?_
          rintro e w2 ⟨rfl, hu2⟩
          have HU2 := Lib.hid (HU1.out.trans hu2)
          clear hu2
          go_wp2_with fail
          refine (HAL.out _).mono ?_
          rintro e w3 ⟨rfl, hu3⟩
          have HU3 := Lib.hid (HU2.out.trans hu3)
          clear hu3
          go_wp2_with fail
          go_ret
          exact ⟨by simp, HU3.out⟩
  · have hl10 : (10 : Int) < l.length := by omega
    have hlm : (l.length : Int) ≤ 9223372036854775807 := by omega
    clear hr h10
    generalize l.length = n at *
    go_enter Try.func5, Try.ntmps5
    go_wp2_with fail
    refine (HAL.out _).mono ?_
    rintro e w2 ⟨rfl, hu⟩
    have HU := Lib.hid hu
    clear hu
    go_wp2_with fail
    go_ret
    exact ⟨rfl, HU.out⟩

end Go.Proofs.Ytpefcbmmbpcalaa
