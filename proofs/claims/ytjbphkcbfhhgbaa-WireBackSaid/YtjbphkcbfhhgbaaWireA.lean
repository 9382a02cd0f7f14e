/-
  Package wire: the walks of a Reader's methods and of number.
-/
import Derived.Test.YtjbphkcbfhhgbaaRows
import Derived.Test.YtjbphkcbfhhgbaaWireP
import Derived.WalkKit
import Derived.WalkSpells
import Derived.WalkLawsBesides
import Derived.Lib.Hide
set_option linter.unusedVariables false
set_option linter.unusedSimpArgs false
namespace Go.Proofs.Ytjbphkcbfhhgbaa
open Go.RowKit

theorem numL_step (l : List UInt8) (k acc : Nat) (hk : k < l.length) : numL k acc (l.drop k) = if k = 5 then (0, 0, 3) else
      if 128 ≤ (l.getD k 0).toNat then numL (k + 1) (acc + ((l.getD k 0).toNat % 128) * 128 ^ k) (l.drop (k + 1))
      else if (l.getD k 0).toNat = 0 ∧ 0 < k then (0, 0, 3) else (acc + ((l.getD k 0).toNat % 128) * 128 ^ k, k + 1, 0) := by
  rw [List.drop_eq_getElem_cons hk, getDB_lt hk]
  rfl
theorem numL_end (l : List UInt8) (acc : Nat) : numL l.length acc (l.drop l.length) = (0, 0, 4) := by rw [List.drop_length]; rfl

theorem ret_num {a b c : Nat} {r : Nat × Nat × Nat} (h : r = (a, b, c)) : Ending.returned (.tuple #[.int .i64 a, .int .i64 b, .int .i64 c]) = .returned (.tuple #[.int .i64 r.1, .int .i64 r.2.1, .int .i64 r.2.2]) := by rw [h]

theorem ret_val {x k : Int} {a b : Nat} {r : Nat × Nat × Nat} (h : r = (a, b, 0)) (hx : x = (a : Int)) (hk : k = (b : Int)) :
    Ending.returned (.tuple #[.int .i64 x, .int .i64 k, .int .i64 0]) = .returned (.tuple #[.int .i64 r.1, .int .i64 r.2.1, .int .i64 r.2.2]) := by
  subst hx hk; rw [h]; rfl

set_option maxRecDepth 100000 in
set_option maxHeartbeats 2000000 in
theorem number_any (l : List UInt8) (A : Option Addr) (cap : Nat) (w : World) (hm : l.length ≤ 9223372036854775807) (hrow : Row w A l.length (BVal l)) :
    Calls Try.prog 21 #[.slice A l.length cap] w fun e w' => e = .returned (.tuple #[.int .i64 (numL 0 0 l).1, .int .i64 (numL 0 0 l).2.1, .int .i64 (numL 0 0 l).2.2]) ∧ w = w' := by
  have HR := Lib.hid hrow
  obtain ⟨n, hn⟩ : ∃ n, l.length = n := ⟨_, rfl⟩
  rw [hn] at hm ⊢
  have HN := Lib.hid hn
  clear hrow hn
  go_enter Try.func21, Try.ntmps21
  go_wp2_with fail
  go_loop [5, 10] (fun v t => ∃ k acc : Nat, k ≤ n ∧ k ≤ 5 ∧ t = .int .i64 k ∧ v = .int .i64 acc ∧ acc < 128 ^ k ∧ Hid (numL 0 0 l = numL k acc (l.drop k))) (fun _ t => n - (intOf t).toNat)
  case atStart => exact ⟨0, 0, by omega, by omega, rfl, rfl, by decide, Lib.hid rfl⟩
  case round =>
    obtain ⟨k, acc, hk, hk5, rfl, rfl, hacc, HK⟩ := hrel
    by_cases hlt : k < n
    · obtain ⟨b, off, rfl, hc⟩ := HR.out k (by rw [HN.out]; exact hlt)
      unfold BVal at hc
      have hst := numL_step l k acc (by rw [HN.out]; exact hlt)
      have hb := (l.getD k 0).toNat_lt
      generalize (l.getD k 0).toNat = c at *
      have hb' : (c : Int) ≤ 255 := by omega
      clear hb
      by_cases h5 : k = 5
      · subst h5
        have HF := Lib.hid (show numL 0 0 l = (0, 0, 3) by rw [HK.out, hst]; rfl)
        clear hst
        go_wp2_with fail
        go_ret3
        exact ⟨ret_num HF.out, rfl⟩
      · rcases (show k = 0 ∨ k = 1 ∨ k = 2 ∨ k = 3 ∨ k = 4 by omega) with rfl | rfl | rfl | rfl | rfl
        · clear h5 hk5 hk
          have hc : w.cell? ⟨b, off, none⟩ = some (.int .u8 (c : Int)) := hc
          rw [if_neg (by decide)] at hst
          have hacc : (acc : Int) ≤ 0 := by omega
          have hm0 : 0 ≤ ((c : Int) % 128) := by omega
          have hm1 : ((c : Int) % 128) ≤ 127 := by omega
          have hpw : c % 128 * 128 ^ 0 = c % 128 * 1 := rfl
          rw [hpw] at hst
          clear hpw
          have hlt2 : acc + c % 128 * 1 < 128 := by omega
          by_cases hc128 : 128 ≤ c
          · rw [if_pos hc128] at hst
            have HST := Lib.hid (HK.out.trans hst)
            have HLT2 := Lib.hid hlt2
            clear hst HK hlt2
            go_wp2_with fail
            go_round
            case rel => exact ⟨1, acc + c % 128 * 1, by omega, by decide, rfl, by go_num, by have := HLT2.out; omega, HST⟩
            case measure => simp [intOf]; omega
          · rw [if_neg hc128] at hst
            rw [if_neg (by omega)] at hst
            by_cases hc0 : c = 0
            · subst hc0
              have HST := Lib.hid (HK.out.trans hst)
              clear hst HK hlt2 hm0 hm1 hb' hc128
              go_wp2_with fail
              go_ret3
              exact ⟨ret_num HST.out, rfl⟩
            · have HST := Lib.hid (HK.out.trans hst)
              have hne : ((c : Int) == 0) = false := beq_eq_false_iff_ne.2 (by omega)
              clear hst HK hlt2 hc0
              go_wp2_with fail
              go_ret3
              exact ⟨ret_val HST.out (by omega) (by omega), rfl⟩
        · clear h5 hk5 hk
          rw [if_neg (by decide)] at hst
          have hacc : (acc : Int) ≤ 127 := by omega
          have hm0 : 0 ≤ ((c : Int) % 128) := by omega
          have hm1 : ((c : Int) % 128) ≤ 127 := by omega
          have hpw : c % 128 * 128 ^ 1 = c % 128 * 128 := rfl
          rw [hpw] at hst
          clear hpw
          have hlt2 : acc + c % 128 * 128 < 16384 := by omega
          by_cases hc128 : 128 ≤ c
          · rw [if_pos hc128] at hst
            have HST := Lib.hid (HK.out.trans hst)
            have HLT2 := Lib.hid hlt2
            clear hst HK hlt2
            go_wp2_with fail
            go_round
            case rel => exact ⟨2, acc + c % 128 * 128, by omega, by decide, rfl, by go_num, by have := HLT2.out; omega, HST⟩
            case measure => simp [intOf]; omega
          · rw [if_neg hc128] at hst
            by_cases hc0 : c = 0
            · subst hc0
              rw [if_pos (by decide)] at hst
              have HST := Lib.hid (HK.out.trans hst)
              clear hst HK hlt2 hm0 hm1 hb' hc128
              go_wp2_with fail
              go_ret3
              exact ⟨ret_num HST.out, rfl⟩
            · rw [if_neg (by omega)] at hst
              have HST := Lib.hid (HK.out.trans hst)
              have hne : ((c : Int) == 0) = false := beq_eq_false_iff_ne.2 (by omega)
              clear hst HK hlt2 hc0
              go_wp2_with fail
              go_ret3
              exact ⟨ret_val HST.out (by omega) (by omega), rfl⟩
        · clear h5 hk5 hk
          rw [if_neg (by decide)] at hst
          have hacc : (acc : Int) ≤ 16383 := by omega
          have hm0 : 0 ≤ ((c : Int) % 128) := by omega
          have hm1 : ((c : Int) % 128) ≤ 127 := by omega
          have hpw : c % 128 * 128 ^ 2 = c % 128 * 16384 := rfl
          rw [hpw] at hst
          clear hpw
          have hlt2 : acc + c % 128 * 16384 < 2097152 := by omega
          by_cases hc128 : 128 ≤ c
          · rw [if_pos hc128] at hst
            have HST := Lib.hid (HK.out.trans hst)
            have HLT2 := Lib.hid hlt2
            clear hst HK hlt2
            go_wp2_with fail
            go_round
            case rel => exact ⟨3, acc + c % 128 * 16384, by omega, by decide, rfl, by go_num, by have := HLT2.out; omega, HST⟩
            case measure => simp [intOf]; omega
          · rw [if_neg hc128] at hst
            by_cases hc0 : c = 0
            · subst hc0
              rw [if_pos (by decide)] at hst
              have HST := Lib.hid (HK.out.trans hst)
              clear hst HK hlt2 hm0 hm1 hb' hc128
              go_wp2_with fail
              go_ret3
              exact ⟨ret_num HST.out, rfl⟩
            · rw [if_neg (by omega)] at hst
              have HST := Lib.hid (HK.out.trans hst)
              have hne : ((c : Int) == 0) = false := beq_eq_false_iff_ne.2 (by omega)
              clear hst HK hlt2 hc0
              go_wp2_with fail
              go_ret3
              exact ⟨ret_val HST.out (by omega) (by omega), rfl⟩
        · clear h5 hk5 hk
          rw [if_neg (by decide)] at hst
          have hacc : (acc : Int) ≤ 2097151 := by omega
          have hm0 : 0 ≤ ((c : Int) % 128) := by omega
          have hm1 : ((c : Int) % 128) ≤ 127 := by omega
          have hpw : c % 128 * 128 ^ 3 = c % 128 * 2097152 := rfl
          rw [hpw] at hst
          clear hpw
          have hlt2 : acc + c % 128 * 2097152 < 268435456 := by omega
          by_cases hc128 : 128 ≤ c
          · rw [if_pos hc128] at hst
            have HST := Lib.hid (HK.out.trans hst)
            have HLT2 := Lib.hid hlt2
            clear hst HK hlt2
            go_wp2_with fail
            go_round
            case rel => exact ⟨4, acc + c % 128 * 2097152, by omega, by decide, rfl, by go_num, by have := HLT2.out; omega, HST⟩
            case measure => simp [intOf]; omega
          · rw [if_neg hc128] at hst
            by_cases hc0 : c = 0
            · subst hc0
              rw [if_pos (by decide)] at hst
              have HST := Lib.hid (HK.out.trans hst)
              clear hst HK hlt2 hm0 hm1 hb' hc128
              go_wp2_with fail
              go_ret3
              exact ⟨ret_num HST.out, rfl⟩
            · rw [if_neg (by omega)] at hst
              have HST := Lib.hid (HK.out.trans hst)
              have hne : ((c : Int) == 0) = false := beq_eq_false_iff_ne.2 (by omega)
              clear hst HK hlt2 hc0
              go_wp2_with fail
              go_ret3
              exact ⟨ret_val HST.out (by omega) (by omega), rfl⟩
        · clear h5 hk5 hk
          rw [if_neg (by decide)] at hst
          have hacc : (acc : Int) ≤ 268435455 := by omega
          have hm0 : 0 ≤ ((c : Int) % 128) := by omega
          have hm1 : ((c : Int) % 128) ≤ 127 := by omega
          have hpw : c % 128 * 128 ^ 4 = c % 128 * 268435456 := rfl
          rw [hpw] at hst
          clear hpw
          have hlt2 : acc + c % 128 * 268435456 < 34359738368 := by omega
          by_cases hc128 : 128 ≤ c
          · rw [if_pos hc128] at hst
            have HST := Lib.hid (HK.out.trans hst)
            have HLT2 := Lib.hid hlt2
            clear hst HK hlt2
            go_wp2_with fail
            go_round
            case rel => exact ⟨5, acc + c % 128 * 268435456, by omega, by decide, rfl, by go_num, by have := HLT2.out; omega, HST⟩
            case measure => simp [intOf]; omega
          · rw [if_neg hc128] at hst
            by_cases hc0 : c = 0
            · subst hc0
              rw [if_pos (by decide)] at hst
              have HST := Lib.hid (HK.out.trans hst)
              clear hst HK hlt2 hm0 hm1 hb' hc128
              go_wp2_with fail
              go_ret3
              exact ⟨ret_num HST.out, rfl⟩
            · rw [if_neg (by omega)] at hst
              have HST := Lib.hid (HK.out.trans hst)
              have hne : ((c : Int) == 0) = false := beq_eq_false_iff_ne.2 (by omega)
              clear hst HK hlt2 hc0
              go_wp2_with fail
              go_ret3
              exact ⟨ret_val HST.out (by omega) (by omega), rfl⟩
    · obtain rfl : k = n := by omega
      have HF := Lib.hid (show numL 0 0 l = (0, 0, 4) by rw [HK.out, ← HN.out]; exact numL_end l acc)
      go_wp2_with fail
      go_ret3
      exact ⟨ret_num HF.out, rfl⟩

end Go.Proofs.Ytjbphkcbfhhgbaa
