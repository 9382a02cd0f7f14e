/-
  lin.after, lin.check.
-/
import Derived.Test.YtpefcbmmbpcalaaDoorSrP
import Derived.Test.YtpefcbmmbpcalaaDoorStill
import Derived.Test.YtpefcbmmbpcalaaDoorFinA
set_option linter.unusedVariables false
set_option linter.unusedSimpArgs false
namespace Go.Proofs.YtpefcbmmbpcalaaDoor
open Go.RowKit

set_option maxRecDepth 10000 in
set_option maxHeartbeats 1000000 in
theorem after_any (o : OpD) (v : Int) (w : World) : Calls Tryd.prog 36 #[oagg o, .int .i64 v] w fun e w' => e = .returned (.tuple #[.int .i64 (afterV o v), .bool (tellsB o v)]) ∧ Up w w' := by
  obtain ⟨F, T, Wr, V, Th⟩ := o
  have hb := heap_alloc_new w (.cells #[.int .i64 F, .int .i64 T, .bool Wr, .int .i64 V, .int .i64 Th] 28)
  have x0 := cell_of_row _ _ 0 _ _ _ hb
  have x1 := cell_of_row _ _ 1 _ _ _ hb
  have x2 := cell_of_row _ _ 2 _ _ _ hb
  have x3 := cell_of_row _ _ 3 _ _ _ hb
  have HU := Lib.hid ((Up.refl w).alloc (.cells #[.int .i64 F, .int .i64 T, .bool Wr, .int .i64 V, .int .i64 Th] 28))
  have HA : Hid (afterV ⟨F, T, Wr, V, Th⟩ v = if Wr then V else v) := Lib.hid rfl
  have HT : Hid (tellsB ⟨F, T, Wr, V, Th⟩ v = (Wr || T == -1 || V == v)) := Lib.hid rfl
  unfold oagg
  clear hb
  cases Wr
  · have c1 := upCell x1
    have c3 := upCell x3
    by_cases h1 : T = -1
    · have h1b : (T == -1) = true := by rw [h1]; rfl
      rw [h1b] at HT
      clear h1
      go_enter Tryd.func36, Tryd.ntmps36
      go_wp2_with fail
      refine wp_region_up (by kernel_rfl) (by kernel_rfl) (Up.refl _) ?_
      repeat (go_big_quiet_step ((fail)))
      refine wpQuiet_nil ?_
      rintro wz ⟨⟨wy, huy⟩, hwy⟩
      have HUZ := Lib.hid (show Up w wz by rw [hwy]; exact HU.out.trans huy)
      clear hwy huy
      go_wp2_with fail
      go_ret2
      exact ⟨by rw [HA.out, HT.out]; rfl, HUZ.out⟩
    · have h1b : (T == -1) = false := beq_eq_false_iff_ne.2 h1
      rw [h1b] at HT
      clear h1
      cases h2 : (V == v)
      · rw [h2] at HT
        go_enter Tryd.func36, Tryd.ntmps36
        go_wp2_with fail
        refine wp_region_up (by kernel_rfl) (by kernel_rfl) (Up.refl _) ?_
        repeat (go_big_quiet_step ((fail)))
        refine wpQuiet_nil ?_
        rintro wz ⟨⟨wy, huy⟩, hwy⟩
        have HUZ := Lib.hid (show Up w wz by rw [hwy]; exact HU.out.trans huy)
        clear hwy huy
        go_wp2_with fail
        go_ret2
        exact ⟨by rw [HA.out, HT.out]; rfl, HUZ.out⟩
      · rw [h2] at HT
        go_enter Tryd.func36, Tryd.ntmps36
        go_wp2_with fail
        refine wp_region_up (by kernel_rfl) (by kernel_rfl) (Up.refl _) ?_
        repeat (go_big_quiet_step ((fail)))
        refine wpQuiet_nil ?_
        rintro wz ⟨⟨wy, huy⟩, hwy⟩
        have HUZ := Lib.hid (show Up w wz by rw [hwy]; exact HU.out.trans huy)
        clear hwy huy
        go_wp2_with fail
        go_ret2
        exact ⟨by rw [HA.out, HT.out]; rfl, HUZ.out⟩
  · go_enter Tryd.func36, Tryd.ntmps36
    go_wp2_with fail
    go_ret2
    exact ⟨by rw [HA.out, HT.out]; rfl, HU.out⟩

/-- What check answers: 0, 1 (ErrArg), 5 (ErrMany). -/
def checkP (l : List OpD) : Int := if fineP l then (if 24 < l.length then 5 else 0) else 1
set_option maxHeartbeats 1000000 in
theorem check_any (l : List OpD) (A : Option Addr) (c : Nat) (w : World) (hl : l.length ≤ 9223372036854775807) (hr : OpRow w A l) :
    Calls Tryd.prog 34 #[.slice A l.length c] w fun e w' => e = .returned (.int .i64 (checkP l)) ∧ Up w w' := by
  have HFI := Lib.hid (fine_any l A c w hl hr)
  have HC : Hid (checkP l = if fineP l then (if 24 < l.length then 5 else 0) else 1) := Lib.hid rfl
  cases hf : fineP l
  · rw [hf] at HFI HC
    clear hr hf
    go_enter Tryd.func34, Tryd.ntmps34
    go_wp2_with fail
    refine HFI.out.mono ?_
    rintro e w1 ⟨rfl, hu1⟩
    have HU1 := Lib.hid hu1
    clear hu1
    go_wp2_with fail
    go_ret
    exact ⟨by rw [HC.out]; rfl, HU1.out⟩
  · rw [hf] at HFI HC
    by_cases h24 : 24 < l.length
    · have hi : (24 : Int) < l.length := by omega
      have HC2 : Hid (checkP l = 5) := Lib.hid (by rw [HC.out, if_pos rfl, if_pos h24])
      clear hr hf h24 HC
      go_enter Tryd.func34, Tryd.ntmps34
      go_wp2_with fail
      refine HFI.out.mono ?_
      rintro e w1 ⟨rfl, hu1⟩
      have HU1 := Lib.hid hu1
      clear hu1
      go_wp2_with fail
      go_ret
      exact ⟨by rw [HC2.out]; rfl, HU1.out⟩
    · have hi : (l.length : Int) ≤ 24 := by omega
      have HC2 : Hid (checkP l = 0) := Lib.hid (by rw [HC.out, if_pos rfl, if_neg h24])
      clear hr hf h24 HC
      go_enter Tryd.func34, Tryd.ntmps34
      go_wp2_with fail
      refine HFI.out.mono ?_
      rintro e w1 ⟨rfl, hu1⟩
      have HU1 := Lib.hid hu1
      clear hu1
      go_wp2_with fail
      go_ret
      exact ⟨by rw [HC2.out]; rfl, HU1.out⟩

end Go.Proofs.YtpefcbmmbpcalaaDoor
