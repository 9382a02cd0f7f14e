/-
  The walk of the law GridBack.
-/
import Derived.Test.YtaplhooapgfdgaaWalkB
import Derived.Test.YtaplhooapgfdgaaRow
namespace Go.Proofs.Ytaplhooapgfdgaa
open Go.RowKit

theorem split_name (k : Nat) : ∀ i : Int, (k : Int) ≤ 64 → 0 ≤ i → i < siz k → ∃ d y : Int, 0 ≤ y ∧ y ≤ d ∧ d < k ∧ i = siz d + y := by
  induction k with
  | zero => intro i _ h0 h1; rw [show siz ((0 : Nat) : Int) = 0 from by decide] at h1; omega
  | succ k ih =>
    intro i hk h0 h1
    by_cases h : i < siz k
    · obtain ⟨d, y, a, b, c, e⟩ := ih i (by omega) h0 h
      exact ⟨d, y, a, b, by omega, e⟩
    · have := siz_succ k (by omega) (by omega)
      rw [show ((k + 1 : Nat) : Int) = (k : Int) + 1 from by omega, this] at h1
      exact ⟨k, i - siz k, by omega, by omega, by omega, by omega⟩

theorem wh_fl (n : Int) (h0 : 0 ≤ n) (h1 : n ≤ 64) : wh (fl n) = some n := wh_ofInt n (by omega) (by omega)

theorem diaI_in (x y : Int) (hx : 0 ≤ x) (hy : 0 ≤ y) (h : x + y < 64) : diaI (some x) (some y) = x + y := by
  unfold diaI
  simp only
  rw [if_neg (by omega), if_neg (by omega), if_neg (by omega)]

theorem namI_in (x y : Int) (hx : 0 ≤ x) (hy : 0 ≤ y) (h : x + y < 64) : namI (some x) (some y) = siz (x + y) + y := by
  unfold namI
  rw [diaI_in x y hx hy h, if_neg (by omega)]
  rfl

theorem step_fl : ∀ k : Nat, k < 64 → floatBits .add .f64 (floatOfInt .f64 k) 4607182418800017408 = some (floatOfInt .f64 (k + 1)) := by decide +kernel

theorem right_fl (x y : Int) (x0 : 0 ≤ x) (x1 : x < 64) (y0 : 0 ≤ y) (y1 : y < 64) : cSumBits .add .f64 (fl x) (fl y) 4607182418800017408 0 = some (fl (x + 1), fl y) := by
  have hx := step_fl x.toNat (by omega)
  have hy := (add_zero_fl y.toNat (by omega)).1
  rw [show ((x.toNat : Nat) : Int) = x from by omega] at hx
  rw [show ((y.toNat : Nat) : Int) = y from by omega] at hy
  unfold cSumBits fl
  rw [hx, hy]
  rfl
theorem down_fl (x y : Int) (x0 : 0 ≤ x) (x1 : x < 64) (y0 : 0 ≤ y) (y1 : y < 64) : cSumBits .add .f64 (fl x) (fl y) 0 4607182418800017408 = some (fl x, fl (y + 1)) := by
  have hy := step_fl y.toNat (by omega)
  have hx := (add_zero_fl x.toNat (by omega)).1
  rw [show ((x.toNat : Nat) : Int) = x from by omega] at hx
  rw [show ((y.toNat : Nat) : Int) = y from by omega] at hy
  unfold cSumBits fl
  rw [hx, hy]
  rfl

set_option maxHeartbeats 1000000 in
theorem back_any (n : Int) (A : Option Addr) (len cap : Nat) (B : Nat → Bool) (w : World) (hn0 : 0 ≤ n) (hn1 : n ≤ 255) (hlen : len ≤ 9223372036854775807) (hrow : Row w A len fun k => .bool (B k)) :
    Calls Try.prog 5 #[.int .u8 n, .slice A len cap] w fun e w' => e = .returned (.bool true) ∧ w = w' := by
  obtain ⟨k, hk⟩ : ∃ k, n % 65 = k := ⟨_, rfl⟩
  have k0 : 0 ≤ k := by omega
  have k1 : k ≤ 64 := by omega
  have hsz := siz_in k k0 k1
  obtain ⟨m1, m2⟩ := mul_bd k k0 k1
  have hq : wrap64 ((wrap64 (k * (k + 1))).tdiv 2) = siz k := by
    rw [IntWalk.wrap64_in (k * (k + 1)) ⟨by omega, by omega⟩, Int.tdiv_eq_ediv_of_nonneg m1, IntWalk.wrap64_in _ ⟨by omega, by omega⟩, hsz]
  have Hq := Lib.hid hq
  have sb := siz_bd k
  have Hrow := Lib.hid hrow
  have CS := Lib.hid (fun (n : Int) (w : World) => size_any n w)
  clear hq hsz m1 m2 hrow
  go_enter Try.func5, Try.ntmps5
  go_wp2_with fail
  have Hk := Lib.hid hk
  clear hk
  go_loop [6] (fun t => ∃ i : Int, 0 ≤ i ∧ i ≤ siz k ∧ t = .int .i64 i) (fun t => (2080 - intOf t).toNat)
  case atStart => exact ⟨0, by omega, by omega, rfl⟩
  case round =>
    obtain ⟨i, i0, i1, rfl⟩ := hrel
    by_cases hi : i < siz k
    · go_wp2_with fail
      refine (CS.out _ _).mono ?_
      rintro e w' ⟨rfl, rfl⟩
      obtain ⟨d, y, y0, yd, dk, ei⟩ := split_name k.toNat i (by omega) i0 (by rw [show ((k.toNat : Nat) : Int) = k from by omega]; exact hi)
      have dk' : d < k := by omega
      have CA := Lib.hid (fun w => at_in d y w y0 yd (by omega))
      have cn := fun w => name_any (fl (d - y)) (fl y) w
      rw [wh_fl _ (by omega) (by omega), wh_fl _ (by omega) (by omega), namI_in _ _ (by omega) (by omega) (by omega), show d - y + y = d from by omega] at cn
      have co := fun w => on_any k (fl (d - y)) (fl y) w
      rw [wh_fl _ (by omega) (by omega), wh_fl _ (by omega) (by omega), diaI_in _ _ (by omega) (by omega) (by omega), show d - y + y = d from by omega,
        show onI k d = true from by unfold onI; rw [decide_eq_true (by omega), decide_eq_true (by omega)]; rfl] at co
      rw [← ei] at cn
      rw [← ei] at CA
      have CN := Lib.hid cn
      have CO := Lib.hid co
      clear cn co ei dk
      go_wp2_with fail
      refine (CA.out _).mono ?_
      rintro e w' ⟨rfl, rfl⟩
      go_wp2_with fail
      refine (CN.out _).mono ?_
      rintro e w' ⟨rfl, rfl⟩
      go_wp2_with fail
      refine (CO.out _).mono ?_
      rintro e w' ⟨rfl, rfl⟩
      go_wp2_with fail
      go_round
      case rel => exact ⟨i + 1, by omega, by omega, rfl⟩
      case measure => simp [intOf]; omega
    · obtain rfl : i = siz k := by omega
      go_wp2_with fail
      refine (CS.out _ _).mono ?_
      rintro e w' ⟨rfl, rfl⟩
      go_wp2_with fail
      refine (CS.out _ _).mono ?_
      rintro e w' ⟨rfl, rfl⟩
      have hq := Hq.out
      by_cases hk64 : k < 64
      · have CA := Lib.hid (fun w => at_in k 0 w (by omega) (by omega) hk64)
        have co := fun w => on_any k (fl k) (fl 0) w
        rw [wh_fl _ (by omega) (by omega), wh_fl _ (by omega) (by omega), diaI_in _ _ (by omega) (by omega) (by omega), show k + 0 = k from by omega,
          show onI k k = false from by unfold onI; rw [decide_eq_true (by omega), decide_eq_false (by omega)]; rfl] at co
        rw [show siz k + 0 = siz k from by omega, show k - 0 = k from by omega] at CA
        have CO := Lib.hid co
        clear co
        go_wp2_with fail
        refine (CS.out _ _).mono ?_
        rintro e w' ⟨rfl, rfl⟩
        go_wp2_with fail
        refine (CA.out _).mono ?_
        rintro e w' ⟨rfl, rfl⟩
        go_wp2_with fail
        refine (CO.out _).mono ?_
        rintro e w' ⟨rfl, rfl⟩
        go_wp2_with fail
        clear hq hk64
        go_loop [8, 9] (fun z t => ∃ (x y : Int) (j : Nat), 0 ≤ x ∧ 0 ≤ y ∧ x + y = j ∧ j ≤ 63 ∧ j ≤ len ∧ z = .complex .f64 (fl x) (fl y) ∧ t = .int .i64 j) (fun _ t => (64 - intOf t).toNat)
        case atStart => exact ⟨0, 0, 0, by omega, by omega, by omega, by omega, by omega, rfl, rfl⟩
        case round =>
          obtain ⟨x, y, j, x0, y0, xy, j63, jl, rfl, rfl⟩ := hrel
          have XY := Lib.hid xy
          have xb : x ≤ j := by omega
          have xyb : x + y ≤ j := by omega
          have yb : y ≤ j := by omega
          clear xy
          by_cases h1 : j < len ∧ j < 63
          · obtain ⟨h1, h2⟩ := h1
            obtain ⟨b, off, rfl, hc⟩ := Hrow.out j h1
            have s1 := Lib.hid (siz_succ (j + 1) (by omega) (by omega))
            have h3 : siz (j + 1) + (y + 1) < siz (j + 2) := by rw [show (j : Int) + 2 = j + 1 + 1 from by omega, s1.out]; omega
            have h3' : siz (j + 1) + y < siz (j + 2) := by omega
            cases hB : B j
            · simp only [hB] at hc
              have cn := fun w => name_any (fl x) (fl (y + 1)) w
              rw [wh_fl _ (by omega) (by omega), wh_fl _ (by omega) (by omega), namI_in _ _ (by omega) (by omega) (by omega), show x + (y + 1) = j + 1 from by have := XY.out; omega] at cn
              have CN := Lib.hid cn
              have hsum := fun w : World => run_complex_sum (P := Try.prog) w .add (.inl rfl) 23 .f64 (fl x) (fl y) 0 4607182418800017408 (fl x) (fl (y + 1)) (down_fl x y x0 (by omega) y0 (by omega))
              clear cn hB
              go_wp2_with fail
              refine (CN.out _).mono ?_
              rintro e w' ⟨rfl, rfl⟩
              go_wp2_with fail
              refine (CS.out _ _).mono ?_
              rintro e w' ⟨rfl, rfl⟩
              go_wp2_with fail
              refine (CN.out _).mono ?_
              rintro e w' ⟨rfl, rfl⟩
              go_wp2_with fail
              refine (CS.out _ _).mono ?_
              rintro e w' ⟨rfl, rfl⟩
              go_wp2_with fail
              go_round
              case rel => exact ⟨x, y + 1, j + 1, by omega, by omega, by have := XY.out; omega, by omega, by omega, rfl, by go_num⟩
              case measure => simp [intOf]; omega
            · simp only [hB] at hc
              have cn := fun w => name_any (fl (x + 1)) (fl y) w
              rw [wh_fl _ (by omega) (by omega), wh_fl _ (by omega) (by omega), namI_in _ _ (by omega) (by omega) (by omega), show x + 1 + y = j + 1 from by have := XY.out; omega] at cn
              have CN := Lib.hid cn
              have hsum := fun w : World => run_complex_sum (P := Try.prog) w .add (.inl rfl) 23 .f64 (fl x) (fl y) 4607182418800017408 0 (fl (x + 1)) (fl y) (right_fl x y x0 (by omega) y0 (by omega))
              clear cn hB
              go_wp2_with fail
              refine (CN.out _).mono ?_
              rintro e w' ⟨rfl, rfl⟩
              go_wp2_with fail
              refine (CS.out _ _).mono ?_
              rintro e w' ⟨rfl, rfl⟩
              go_wp2_with fail
              refine (CN.out _).mono ?_
              rintro e w' ⟨rfl, rfl⟩
              go_wp2_with fail
              refine (CS.out _ _).mono ?_
              rintro e w' ⟨rfl, rfl⟩
              go_wp2_with fail
              go_round
              case rel => exact ⟨x + 1, y, j + 1, by omega, by omega, by have := XY.out; omega, by omega, by omega, rfl, by go_num⟩
              case measure => simp [intOf]; omega
          · by_cases h2 : j < len
            · have h3 : 63 ≤ j := by omega
              clear h1
              go_wp2_with fail
              refine (alive_any _).mono ?_
              rintro e w' ⟨rfl, rfl⟩
              go_wp2_with fail
              go_ret
              exact ⟨rfl, rfl⟩
            · clear h1
              go_wp2_with fail
              refine (alive_any _).mono ?_
              rintro e w' ⟨rfl, rfl⟩
              go_wp2_with fail
              go_ret
              exact ⟨rfl, rfl⟩
      · go_wp2_with fail
        clear hq hk64
        go_loop [8, 9] (fun z t => ∃ (x y : Int) (j : Nat), 0 ≤ x ∧ 0 ≤ y ∧ x + y = j ∧ j ≤ 63 ∧ j ≤ len ∧ z = .complex .f64 (fl x) (fl y) ∧ t = .int .i64 j) (fun _ t => (64 - intOf t).toNat)
        case atStart => exact ⟨0, 0, 0, by omega, by omega, by omega, by omega, by omega, rfl, rfl⟩
        case round =>
          obtain ⟨x, y, j, x0, y0, xy, j63, jl, rfl, rfl⟩ := hrel
          have XY := Lib.hid xy
          have xb : x ≤ j := by omega
          have xyb : x + y ≤ j := by omega
          have yb : y ≤ j := by omega
          clear xy
          by_cases h1 : j < len ∧ j < 63
          · obtain ⟨h1, h2⟩ := h1
            obtain ⟨b, off, rfl, hc⟩ := Hrow.out j h1
            have s1 := Lib.hid (siz_succ (j + 1) (by omega) (by omega))
            have h3 : siz (j + 1) + (y + 1) < siz (j + 2) := by rw [show (j : Int) + 2 = j + 1 + 1 from by omega, s1.out]; omega
            have h3' : siz (j + 1) + y < siz (j + 2) := by omega
            cases hB : B j
            · simp only [hB] at hc
              have cn := fun w => name_any (fl x) (fl (y + 1)) w
              rw [wh_fl _ (by omega) (by omega), wh_fl _ (by omega) (by omega), namI_in _ _ (by omega) (by omega) (by omega), show x + (y + 1) = j + 1 from by have := XY.out; omega] at cn
              have CN := Lib.hid cn
              have hsum := fun w : World => run_complex_sum (P := Try.prog) w .add (.inl rfl) 23 .f64 (fl x) (fl y) 0 4607182418800017408 (fl x) (fl (y + 1)) (down_fl x y x0 (by omega) y0 (by omega))
              clear cn hB
              go_wp2_with fail
              refine (CN.out _).mono ?_
              rintro e w' ⟨rfl, rfl⟩
              go_wp2_with fail
              refine (CS.out _ _).mono ?_
              rintro e w' ⟨rfl, rfl⟩
              go_wp2_with fail
              refine (CN.out _).mono ?_
              rintro e w' ⟨rfl, rfl⟩
              go_wp2_with fail
              refine (CS.out _ _).mono ?_
              rintro e w' ⟨rfl, rfl⟩
              go_wp2_with fail
              go_round
              case rel => exact ⟨x, y + 1, j + 1, by omega, by omega, by have := XY.out; omega, by omega, by omega, rfl, by go_num⟩
              case measure => simp [intOf]; omega
            · simp only [hB] at hc
              have cn := fun w => name_any (fl (x + 1)) (fl y) w
              rw [wh_fl _ (by omega) (by omega), wh_fl _ (by omega) (by omega), namI_in _ _ (by omega) (by omega) (by omega), show x + 1 + y = j + 1 from by have := XY.out; omega] at cn
              have CN := Lib.hid cn
              have hsum := fun w : World => run_complex_sum (P := Try.prog) w .add (.inl rfl) 23 .f64 (fl x) (fl y) 4607182418800017408 0 (fl (x + 1)) (fl y) (right_fl x y x0 (by omega) y0 (by omega))
              clear cn hB
              go_wp2_with fail
              refine (CN.out _).mono ?_
              rintro e w' ⟨rfl, rfl⟩
              go_wp2_with fail
              refine (CS.out _ _).mono ?_
              rintro e w' ⟨rfl, rfl⟩
              go_wp2_with fail
              refine (CN.out _).mono ?_
              rintro e w' ⟨rfl, rfl⟩
              go_wp2_with fail
              refine (CS.out _ _).mono ?_
              rintro e w' ⟨rfl, rfl⟩
              go_wp2_with fail
              go_round
              case rel => exact ⟨x + 1, y, j + 1, by omega, by omega, by have := XY.out; omega, by omega, by omega, rfl, by go_num⟩
              case measure => simp [intOf]; omega
          · by_cases h2 : j < len
            · have h3 : 63 ≤ j := by omega
              clear h1
              go_wp2_with fail
              refine (alive_any _).mono ?_
              rintro e w' ⟨rfl, rfl⟩
              go_wp2_with fail
              go_ret
              exact ⟨rfl, rfl⟩
            · clear h1
              go_wp2_with fail
              refine (alive_any _).mono ?_
              rintro e w' ⟨rfl, rfl⟩
              go_wp2_with fail
              go_ret
              exact ⟨rfl, rfl⟩

end Go.Proofs.Ytaplhooapgfdgaa
