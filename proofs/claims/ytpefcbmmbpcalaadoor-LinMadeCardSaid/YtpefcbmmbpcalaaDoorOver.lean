/-
  order.Over.
-/
import Derived.Test.YtpefcbmmbpcalaaDoorRespP
set_option linter.unusedVariables false
set_option linter.unusedSimpArgs false
namespace Go.Proofs.YtpefcbmmbpcalaaDoor
open Go.RowKit

set_option maxRecDepth 10000 in
set_option maxHeartbeats 1000000 in
theorem over_any (l : List OpD) (A : Option Addr) (c : Nat) (w : World) (hL : l.length ≤ 64) (hr : OpRow w A l) :
    Calls Tryd.prog 16 #[.slice A l.length c] w fun e w' => e = .returned (.int .u64 (overL l)) ∧ Up w w' := by
  have HR := Lib.hid hr
  have hl2 : (l.length : Int) ≤ 64 := by omega
  have HLT := Lib.hid (fun k h => overK_lt l k h)
  have HOV : Hid (overL l = overK l l.length) := Lib.hid rfl
  have HST : Hid (∀ k, overK l (k + 1) = if (l.getD k op0).to = -1 then overK l k else withN (overK l k) k) := Lib.hid (fun _ => rfl)
  clear hr
  go_enter Tryd.func16, Tryd.ntmps16
  go_wp2_with fail
  go_loopw [3, 8] (fun s x wr => ∃ k : Nat, k ≤ l.length ∧ x = .int .i64 k ∧ s = .int .u64 (overK l k) ∧ Hid (Up w wr)) (fun _ x _ => l.length - (intOf x).toNat)
  case atStart => exact ⟨0, by omega, rfl, rfl, Lib.hid (Up.refl _)⟩
  case round =>
    obtain ⟨k, hk, rfl, rfl, HV⟩ := hrel
    by_cases hlt : k < l.length
    · have hki : (k : Int) < l.length := by omega
      have hk0 : (0 : Int) ≤ k := by omega
      obtain ⟨bk, off, rfl, x0, x1, x2, x3, x4⟩ := HR.out.up HV.out k hlt
      have HS := Lib.hid (HST.out k)
      have HLK := Lib.hid (HLT.out k (by omega))
      generalize l.getD k op0 = o at *
      obtain ⟨F, T, Wr, V, Th⟩ := o
      dsimp only at x0 x1 x2 x3 x4 HS
      have HUA := Lib.hid (HV.out.alloc (.cells #[.int .i64 F, .int .i64 T, .bool Wr, .int .i64 V, .int .i64 Th] 28))
      by_cases ht : T = -1
      · have htb : (T != -1) = false := by rw [ht]; rfl
        have HS2 : Hid (overK l (k + 1) = overK l k) := Lib.hid (by rw [HS.out, if_pos ht])
        clear HS ht
        go_wp2_with fail
        go_roundw
        case rel => exact ⟨k + 1, by omega, by go_num, by rw [HS2.out], HUA⟩
        case measure => simp [intOf]; omega
      · have htb : (T != -1) = true := by rw [bne_iff_ne]; exact ht
        have HS2 : Hid (overK l (k + 1) = withN (overK l k) k) := Lib.hid (by rw [HS.out, if_neg ht])
        have HWI := Lib.hid (fun W => mwith_any (overK l k) k W HLK.out (by omega))
        clear HS ht
        go_wp2_with fail
        refine (HWI.out _).mono ?_
        rintro e w2 ⟨rfl, rfl⟩
        go_wp2_with fail
        go_roundw
        case rel => exact ⟨k + 1, by omega, by go_num, by rw [HS2.out], HUA⟩
        case measure => simp [intOf]; omega
    · obtain rfl : k = l.length := by omega
      clear hlt
      go_wp2_with fail
      go_ret
      exact ⟨by rw [HOV.out]; rfl, HV.out⟩

end Go.Proofs.YtpefcbmmbpcalaaDoor
