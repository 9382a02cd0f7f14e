/-
  The walks of grid.At and of the law's own examples ('alive').
-/
import Derived.Test.YtaplhooapgfdgaaWalkA
namespace Go.Proofs.Ytaplhooapgfdgaa
open Go.RowKit

theorem at_in (d y : Int) (w : World) (y0 : 0 ≤ y) (yd : y ≤ d) (d1 : d < 64) : Calls Try.prog 17 #[.int .i64 (siz d + y)] w fun e w' =>
    e = .returned (.complex .f64 (fl (d - y)) (fl y)) ∧ w = w' := by
  have c64 := fun w => size_any 64 w
  rw [show siz 64 = 2080 from by decide] at c64
  have C64 := Lib.hid c64
  clear c64
  have C := Lib.hid (fun (n : Int) (w : World) => size_any n w)
  have b1 := siz_bd d
  have b2 := siz_succ d (by omega) d1
  have b3 := siz_bd (d + 1)
  have hn0 : 0 ≤ siz d + y := by omega
  have hn1 : siz d + y < 2080 := by omega
  have M := Lib.hid (fun k (h0 : 0 ≤ k) (h : k ≤ d) => siz_le k d h0 h (by omega))
  have M1 := Lib.hid (fun k (h0 : 0 ≤ k) (h : k < d) => siz_le (k + 1) d (by omega) (by omega) (by omega))
  have hsum := fun w : World => run_complex_sum (P := Try.prog) w .add (.inl rfl) 23 .f64 (floatOfInt .f64 (d - y)) 0 0 (floatOfInt .f64 y) (fl (d - y)) (fl y) (sum_fl (d - y) y (by omega) (by omega) y0 (by omega))
  have B2 := Lib.hid b2
  clear b2 b3
  obtain ⟨s, hs⟩ : ∃ s, s = siz d := ⟨_, rfl⟩
  have hn0 : 0 ≤ s + y := by omega
  have hn1 : s + y < 2080 := by omega
  have b0 : 0 ≤ s := by omega
  have b1' : s ≤ 2080 := by omega
  rw [← hs]
  have Hs := Lib.hid hs
  clear hs b1
  go_enter Try.func17, Try.ntmps17
  go_wp2_with fail
  refine (C64.out _).mono ?_
  rintro e w' ⟨rfl, rfl⟩
  go_wp2_with fail
  go_loop [3] (fun t => ∃ k : Int, 0 ≤ k ∧ k ≤ d ∧ t = .int .i64 k) (fun t => (d - intOf t).toNat)
  case atStart => exact ⟨0, by omega, by omega, rfl⟩
  case round =>
    obtain ⟨k, k0, kd, rfl⟩ := hrel
    by_cases hk : k < d
    · have hm := M1.out k k0 hk
      rw [← Hs.out] at hm
      have hle : siz (k + 1) ≤ s + y := by omega
      go_wp2_with fail
      refine (C.out _ _).mono ?_
      rintro e w' ⟨rfl, rfl⟩
      go_wp2_with fail
      go_round
      case rel => exact ⟨k + 1, by omega, by omega, rfl⟩
      case measure => simp [intOf]; omega
    · obtain rfl : k = d := by omega
      have hm : s + y < siz (k + 1) := by rw [B2.out, ← Hs.out]; omega
      go_wp2_with fail
      refine (C.out _ _).mono ?_
      rintro e w' ⟨rfl, rfl⟩
      go_wp2_with fail
      refine (C.out _ _).mono ?_
      rintro e w' ⟨rfl, rfl⟩
      rw [← Hs.out]
      have hy : s + y - s = y := by omega
      go_wp2_with fail
      go_ret
      exact ⟨rfl, rfl⟩

theorem wh_one : wh 4607182418800017408 = some 1 := by
  rw [show (4607182418800017408 : Nat) = floatOfInt .f64 1 from by decide]; exact wh_ofInt 1 (by decide) (by decide)
theorem wh_two : wh 4611686018427387904 = some 2 := by
  rw [show (4611686018427387904 : Nat) = floatOfInt .f64 2 from by decide]; exact wh_ofInt 2 (by decide) (by decide)
theorem wh_nought : wh 0 = some 0 := by
  rw [show (0 : Nat) = floatOfInt .f64 0 from by decide]; exact wh_ofInt 0 (by decide) (by decide)
theorem wh_minus : wh 13830554455654793216 = some (-1) := by
  rw [show (13830554455654793216 : Nat) = floatOfInt .f64 (-1) from by decide]; exact wh_ofInt (-1) (by decide) (by decide)

set_option maxHeartbeats 400000 in
theorem alive_any (w : World) : Calls Try.prog 15 #[] w fun e w' => e = .returned (.bool true) ∧ w = w' := by
  have c1 := fun w => name_any 4607182418800017408 4607182418800017408 w
  rw [wh_one, show namI (some 1) (some 1) = 4 from by decide] at c1
  have c2 := fun w => size_any 3 w
  rw [show siz 3 = 6 from by decide] at c2
  have c3 := fun w => at_in 2 1 w (by decide) (by decide) (by decide)
  rw [show siz 2 + 1 = 4 from by decide, show fl (2 - 1) = 4607182418800017408 from by decide, show fl 1 = 4607182418800017408 from by decide] at c3
  have c4 := fun w => on_any 3 4607182418800017408 4607182418800017408 w
  rw [wh_one, show onI 3 (diaI (some 1) (some 1)) = true from by decide] at c4
  have c5 := fun w => on_any 2 4607182418800017408 4607182418800017408 w
  rw [wh_one, show onI 2 (diaI (some 1) (some 1)) = false from by decide] at c5
  have c6 := fun w => name_any 13830554455654793216 0 w
  rw [wh_minus, wh_nought, show namI (some (-1)) (some 0) = -1 from by decide] at c6
  have c7 := fun w => diag_any 4611686018427387904 4607182418800017408 w
  rw [wh_two, wh_one, show diaI (some 2) (some 1) = 3 from by decide] at c7
  have C1 := Lib.hid c1
  have C2 := Lib.hid c2
  have C3 := Lib.hid c3
  have C4 := Lib.hid c4
  have C5 := Lib.hid c5
  have C6 := Lib.hid c6
  have C7 := Lib.hid c7
  clear c1 c2 c3 c4 c5 c6 c7
  have hq : (FloatKind.f64.format.order 4607182418800017408 4607182418800017408 == some .eq) = true := by decide
  go_enter Try.func15, Try.ntmps15
  go_wp2_with fail
  refine (C1.out _).mono ?_
  rintro e w' ⟨rfl, rfl⟩
  go_wp2_with fail
  refine (C2.out _).mono ?_
  rintro e w' ⟨rfl, rfl⟩
  go_wp2_with fail
  refine (C3.out _).mono ?_
  rintro e w' ⟨rfl, rfl⟩
  go_wp2_with fail
  refine (C4.out _).mono ?_
  rintro e w' ⟨rfl, rfl⟩
  go_wp2_with fail
  refine (C5.out _).mono ?_
  rintro e w' ⟨rfl, rfl⟩
  go_wp2_with fail
  refine (C6.out _).mono ?_
  rintro e w' ⟨rfl, rfl⟩
  go_wp2_with fail
  refine (C7.out _).mono ?_
  rintro e w' ⟨rfl, rfl⟩
  go_wp2_with fail
  go_ret
  exact ⟨rfl, rfl⟩

end Go.Proofs.Ytaplhooapgfdgaa
