/-
  The walks of plane.whole, plane.Parts and package grid: what each computes; none of them touches memory.
-/
import Derived.Test.YtaplhooapgfdgaaRows
import Derived.Test.YtaplhooapgfdgaaFloat
import Derived.WalkKit
import Derived.WalkSpells
import Derived.WalkLawsBesides
import Derived.Lib.Hide
namespace Go.Proofs.Ytaplhooapgfdgaa
open Go.RowKit

def SomeNo (w : World) (e : Ending) (w' : World) : Prop := ∃ x : Int, e = .returned (.tuple #[.int .i64 x, .bool false]) ∧ w = w'

theorem whole_out (b : Nat) (w : World) (h : out b) : Calls Try.prog 21 #[.float .f64 b] w fun e w' => SomeNo w e w' := by
  rcases out_in h with h1 | ⟨h1, h2⟩
  · unfold loW at h1
    have h1 : (FloatKind.f64.format.order b 13920626448202203136 == some .gt || FloatKind.f64.format.order b 13920626448202203136 == some .eq) = false := h1
    clear h
    go_enter Try.func21, Try.ntmps21
    go_wp2
    go_ret2
    exact ⟨0, rfl, rfl⟩
  · unfold loW at h1
    unfold hiW at h2
    have h1 : (FloatKind.f64.format.order b 13920626448202203136 == some .gt || FloatKind.f64.format.order b 13920626448202203136 == some .eq) = true := h1
    have h2 : (FloatKind.f64.format.order b 4697254411347427328 == some .lt || FloatKind.f64.format.order b 4697254411347427328 == some .eq) = false := h2
    clear h
    go_enter Try.func21, Try.ntmps21
    go_wp2
    go_ret2
    exact ⟨0, rfl, rfl⟩

theorem whole_in (b : Nat) (V : Int) (w : World) (h : inn b V) : Calls Try.prog 21 #[.float .f64 b] w fun e w' =>
    e = .returned (.tuple #[.int .i64 (V.tdiv scale), .bool (decide (V.tdiv scale * scale = V))]) ∧ w = w' := by
  have h1 := geq_in h
  have h2 := leq_in h
  obtain ⟨h3, b1, b2⟩ := toInt_in h
  have h4 := eql_in (n := V.tdiv scale) h.1 (by unfold scaleN; omega)
  generalize V.tdiv scale = n at *
  generalize decide (n * scale = V) = r at *
  unfold loW at h1
  unfold hiW at h2
  have h1 : (FloatKind.f64.format.order b 13920626448202203136 == some .gt || FloatKind.f64.format.order b 13920626448202203136 == some .eq) = true := h1
  have h2 : (FloatKind.f64.format.order b 4697254411347427328 == some .lt || FloatKind.f64.format.order b 4697254411347427328 == some .eq) = true := h2
  have h4 : (FloatKind.f64.format.order (floatOfInt .f64 n) b == some .eq) = r := h4
  have hc := fun w : World => run_convert_float_int (P := Try.prog) w 22 3 .f64 .i64 b n (by kernel_rfl) (by kernel_rfl) h3
  clear h h3
  go_enter Try.func21, Try.ntmps21
  go_wp2
  go_ret2
  exact ⟨rfl, rfl⟩

theorem whole_yes (b : Nat) (n : Int) (w : World) (h : wh b = some n) : Calls Try.prog 21 #[.float .f64 b] w fun e w' =>
    e = .returned (.tuple #[.int .i64 n, .bool true]) ∧ w = w' := by
  obtain ⟨h0, h1, h2⟩ := wh_some h
  have hs := scale_pos
  have c := whole_in b (n * scale) w ⟨h0, Int.mul_le_mul_of_nonneg_right h1 (by omega), Int.mul_le_mul_of_nonneg_right h2 (by omega)⟩
  rw [Int.mul_tdiv_cancel _ (by omega), decide_eq_true rfl] at c
  exact c

theorem whole_no (b : Nat) (w : World) (h : wh b = none) : Calls Try.prog 21 #[.float .f64 b] w fun e w' => SomeNo w e w' := by
  rcases wh_none h with h | ⟨V, h0, h1, h2, h3⟩
  · exact whole_out b w h
  · refine (whole_in b V w ⟨h0, h1, h2⟩).mono fun e w' ⟨he, hw⟩ => ⟨V.tdiv scale, ?_, hw⟩
    rw [he, decide_eq_false (h3 _)]

theorem parts_yes (a b : Nat) (x y : Int) (w : World) (ha : wh a = some x) (hb : wh b = some y) : Calls Try.prog 19 #[.complex .f64 a b] w fun e w' =>
    e = .returned (.tuple #[.int .i64 x, .int .i64 y, .bool true]) ∧ w = w' := by
  have ca := fun w => whole_yes a x w ha
  have cb := fun w => whole_yes b y w hb
  have Ca := Lib.hid ca
  have Cb := Lib.hid cb
  clear ca cb ha hb
  go_enter Try.func19, Try.ntmps19
  go_wp2_with fail
  refine (Ca.out _).mono ?_
  rintro e w' ⟨rfl, rfl⟩
  go_wp2_with fail
  refine (Cb.out _).mono ?_
  rintro e w' ⟨rfl, rfl⟩
  go_wp2_with fail
  go_ret3
  exact ⟨rfl, rfl⟩

theorem parts_no (a b : Nat) (w : World) (h : wh a = none ∨ wh b = none) : Calls Try.prog 19 #[.complex .f64 a b] w fun e w' =>
    e = .returned (.tuple #[.int .i64 0, .int .i64 0, .bool false]) ∧ w = w' := by
  by_cases ha : wh a = none
  · have ca := fun w => whole_no a w ha
    have Ca := Lib.hid ca
    clear ca
    match hb : wh b with
    | none =>
      have cb := fun w => whole_no b w hb
      have Cb := Lib.hid cb
      clear cb ha hb h
      go_enter Try.func19, Try.ntmps19
      go_wp2_with fail
      refine (Ca.out _).mono ?_
      rintro e w' ⟨x, rfl, rfl⟩
      go_wp2_with fail
      refine (Cb.out _).mono ?_
      rintro e w' ⟨y, rfl, rfl⟩
      go_wp2_with fail
      go_ret3
      exact ⟨rfl, rfl⟩
    | some y =>
      have cb := fun w => whole_yes b y w hb
      have Cb := Lib.hid cb
      clear cb ha hb h
      go_enter Try.func19, Try.ntmps19
      go_wp2_with fail
      refine (Ca.out _).mono ?_
      rintro e w' ⟨x, rfl, rfl⟩
      go_wp2_with fail
      refine (Cb.out _).mono ?_
      rintro e w' ⟨rfl, rfl⟩
      go_wp2_with fail
      go_ret3
      exact ⟨rfl, rfl⟩
  · obtain ⟨x, ha⟩ := Option.ne_none_iff_exists'.1 ha
    have hb : wh b = none := by rcases h with h | h; rw [ha] at h; cases h; exact h
    have ca := fun w => whole_yes a x w ha
    have Ca := Lib.hid ca
    have cb := fun w => whole_no b w hb
    have Cb := Lib.hid cb
    clear ca cb ha hb h
    go_enter Try.func19, Try.ntmps19
    go_wp2_with fail
    refine (Ca.out _).mono ?_
    rintro e w' ⟨rfl, rfl⟩
    go_wp2_with fail
    refine (Cb.out _).mono ?_
    rintro e w' ⟨y, rfl, rfl⟩
    go_wp2_with fail
    go_ret3
    exact ⟨rfl, rfl⟩

def siz (n : Int) : Int := if n < 0 then 0 else if 64 < n then 2080 else n * (n + 1) / 2

theorem mul_bd (n : Int) (h0 : 0 ≤ n) (h1 : n ≤ 64) : 0 ≤ n * (n + 1) ∧ n * (n + 1) ≤ 4160 := by
  refine ⟨Int.mul_nonneg h0 (by omega), ?_⟩
  have : n * (n + 1) ≤ 64 * 65 := Int.mul_le_mul h1 (by omega) (by omega) (by omega)
  omega

theorem size_any (n : Int) (w : World) : Calls Try.prog 7 #[.int .i64 n] w fun e w' => e = .returned (.int .i64 (siz n)) ∧ w = w' := by
  by_cases h0 : n ≤ 0
  · have : siz n = 0 := by
      unfold siz
      by_cases h : n < 0
      · rw [if_pos h]
      · obtain rfl : n = 0 := by omega
        rfl
    rw [this]
    clear this
    go_enter Try.func7, Try.ntmps7
    go_wp2
    go_ret
    exact ⟨rfl, rfl⟩
  · unfold siz
    rw [if_neg (show ¬ n < 0 by omega)]
    by_cases h1 : 64 < n
    · rw [if_pos h1]
      go_enter Try.func7, Try.ntmps7
      go_wp2
      go_ret
      exact ⟨rfl, rfl⟩
    · rw [if_neg h1]
      obtain ⟨m1, m2⟩ := mul_bd n (by omega) (by omega)
      have hq : wrap64 ((wrap64 (n * (n + 1))).tdiv 2) = n * (n + 1) / 2 := by
        rw [IntWalk.wrap64_in (n * (n + 1)) ⟨by omega, by omega⟩, Int.tdiv_eq_ediv_of_nonneg m1, IntWalk.wrap64_in _ ⟨by omega, by omega⟩]
      have Hq := Lib.hid hq
      clear hq
      go_enter Try.func7, Try.ntmps7
      go_wp2
      go_ret
      exact ⟨by rw [← Hq.out]; rfl, rfl⟩

def diaI : Option Int → Option Int → Int
  | some x, some y => if x < 0 then -1 else if y < 0 then -1 else if 64 ≤ x + y then -1 else x + y
  | _, _ => -1

theorem diaI_none {p q : Option Int} (h : p = none ∨ q = none) : diaI p q = -1 := by
  rcases h with h | h
  · subst h; rfl
  · subst h; cases p <;> rfl

theorem diag_any (a b : Nat) (w : World) : Calls Try.prog 13 #[.complex .f64 a b] w fun e w' => e = .returned (.int .i64 (diaI (wh a) (wh b))) ∧ w = w' := by
  by_cases h : wh a = none ∨ wh b = none
  · have c := fun w => parts_no a b w h
    rw [diaI_none h]
    have C := Lib.hid c
    clear c h
    go_enter Try.func13, Try.ntmps13
    go_wp2_with fail
    refine (C.out _).mono ?_
    rintro e w' ⟨rfl, rfl⟩
    go_wp2_with fail
    go_ret
    exact ⟨rfl, rfl⟩
  · obtain ⟨x, ha⟩ := Option.ne_none_iff_exists'.1 (fun e => h (.inl e))
    obtain ⟨y, hb⟩ := Option.ne_none_iff_exists'.1 (fun e => h (.inr e))
    have c := fun w => parts_yes a b x y w ha hb
    obtain ⟨_, x1, x2⟩ := wh_some ha
    obtain ⟨_, y1, y2⟩ := wh_some hb
    have hv : diaI (wh a) (wh b) = if x < 0 then -1 else if y < 0 then -1 else if 64 ≤ x + y then -1 else x + y := by rw [ha, hb]; rfl
    rw [hv]
    have C := Lib.hid c
    clear c h hv ha hb
    by_cases h1 : x < 0
    · rw [if_pos h1]
      go_enter Try.func13, Try.ntmps13
      go_wp2_with fail
      refine (C.out _).mono ?_
      rintro e w' ⟨rfl, rfl⟩
      go_wp2_with fail
      go_ret
      exact ⟨rfl, rfl⟩
    · rw [if_neg h1]
      by_cases h2 : y < 0
      · rw [if_pos h2]
        go_enter Try.func13, Try.ntmps13
        go_wp2_with fail
        refine (C.out _).mono ?_
        rintro e w' ⟨rfl, rfl⟩
        go_wp2_with fail
        go_ret
        exact ⟨rfl, rfl⟩
      · rw [if_neg h2]
        by_cases h3 : 64 ≤ x + y
        · rw [if_pos h3]
          go_enter Try.func13, Try.ntmps13
          go_wp2_with fail
          refine (C.out _).mono ?_
          rintro e w' ⟨rfl, rfl⟩
          go_wp2_with fail
          go_ret
          exact ⟨rfl, rfl⟩
        · rw [if_neg h3]
          go_enter Try.func13, Try.ntmps13
          go_wp2_with fail
          refine (C.out _).mono ?_
          rintro e w' ⟨rfl, rfl⟩
          go_wp2_with fail
          go_ret
          exact ⟨rfl, rfl⟩

def onI (n d : Int) : Bool := decide (0 ≤ d) && decide (d < n)

theorem on_any (n : Int) (a b : Nat) (w : World) : Calls Try.prog 9 #[.int .i64 n, .complex .f64 a b] w fun e w' => e = .returned (.bool (onI n (diaI (wh a) (wh b)))) ∧ w = w' := by
  have c := fun w => diag_any a b w
  generalize diaI (wh a) (wh b) = d at *
  have C := Lib.hid c
  clear c
  unfold onI
  by_cases h1 : 0 ≤ d
  · by_cases h2 : d < n
    · rw [decide_eq_true h1, decide_eq_true h2]
      go_enter Try.func9, Try.ntmps9
      go_wp2_with fail
      refine (C.out _).mono ?_
      rintro e w' ⟨rfl, rfl⟩
      go_wp2_with fail
      go_ret
      exact ⟨rfl, rfl⟩
    · rw [decide_eq_true h1, decide_eq_false h2]
      have hf : decide (d < n) = false := decide_eq_false h2
      go_enter Try.func9, Try.ntmps9
      go_wp2_with fail
      refine (C.out _).mono ?_
      rintro e w' ⟨rfl, rfl⟩
      go_wp2_with fail
      go_ret
      exact ⟨rfl, rfl⟩
  · rw [decide_eq_false h1]
    go_enter Try.func9, Try.ntmps9
    go_wp2_with fail
    refine (C.out _).mono ?_
    rintro e w' ⟨rfl, rfl⟩
    go_wp2_with fail
    go_ret
    exact ⟨rfl, rfl⟩

theorem diaI_inv {p q : Option Int} (h : 0 ≤ diaI p q) : ∃ x y : Int, p = some x ∧ q = some y ∧ 0 ≤ x ∧ 0 ≤ y ∧ x + y < 64 ∧ diaI p q = x + y := by
  match p, q with
  | none, _ => exact absurd h (by show ¬ (0 : Int) ≤ -1; decide)
  | some _, none => exact absurd h (by show ¬ (0 : Int) ≤ -1; decide)
  | some x, some y =>
    unfold diaI at h ⊢
    simp only at h ⊢
    by_cases h1 : x < 0
    · rw [if_pos h1] at h; omega
    · rw [if_neg h1] at h ⊢
      by_cases h2 : y < 0
      · rw [if_pos h2] at h; omega
      · rw [if_neg h2] at h ⊢
        by_cases h3 : 64 ≤ x + y
        · rw [if_pos h3] at h; omega
        · rw [if_neg h3] at h ⊢
          exact ⟨x, y, rfl, rfl, by omega, by omega, by omega, rfl⟩

theorem siz_in (n : Int) (h0 : 0 ≤ n) (h1 : n ≤ 64) : siz n = n * (n + 1) / 2 := by
  unfold siz; rw [if_neg (by omega), if_neg (by omega)]
theorem siz_succ (n : Int) (h0 : 0 ≤ n) (h1 : n < 64) : siz (n + 1) = siz n + n + 1 := by
  rw [siz_in n h0 (by omega), siz_in (n + 1) (by omega) (by omega)]
  have e : (n + 1) * (n + 1 + 1) = n * (n + 1) + 2 * (n + 1) := by rw [Int.mul_comm n (n + 1), ← Int.mul_comm (n + 1) 2, ← Int.mul_add]; congr 1; omega
  omega
theorem siz_bd (n : Int) : 0 ≤ siz n ∧ siz n ≤ 2080 := by
  unfold siz
  split
  · omega
  · split
    · omega
    · have := mul_bd n (by omega) (by omega)
      omega
theorem siz_mono (k : Nat) : ∀ n : Int, 0 ≤ n → n + k ≤ 64 → siz n ≤ siz (n + k) := by
  induction k with
  | zero => intro n _ _; rw [show n + ((0 : Nat) : Int) = n from by omega]; exact Int.le_refl _
  | succ k ih =>
    intro n h0 h1
    have h2 := ih n h0 (by omega)
    have h3 := siz_succ (n + k) (by omega) (by omega)
    rw [show n + ((k + 1 : Nat) : Int) = n + k + 1 from by omega, h3]
    omega
theorem siz_le (n m : Int) (h0 : 0 ≤ n) (h : n ≤ m) (h1 : m ≤ 64) : siz n ≤ siz m := by
  have := siz_mono (m - n).toNat n h0 (by omega)
  rwa [show n + ((m - n).toNat : Int) = m from by omega] at this

def namI (p q : Option Int) : Int := if diaI p q < 0 then -1 else siz (diaI p q) + q.getD 0

theorem name_any (a b : Nat) (w : World) : Calls Try.prog 11 #[.complex .f64 a b] w fun e w' => e = .returned (.int .i64 (namI (wh a) (wh b))) ∧ w = w' := by
  have c := fun w => diag_any a b w
  unfold namI
  by_cases h : diaI (wh a) (wh b) < 0
  · rw [if_pos h]
    generalize diaI (wh a) (wh b) = d at *
    have C := Lib.hid c
    clear c
    go_enter Try.func11, Try.ntmps11
    go_wp2_with fail
    refine (C.out _).mono ?_
    rintro e w' ⟨rfl, rfl⟩
    go_wp2_with fail
    go_ret
    exact ⟨rfl, rfl⟩
  · rw [if_neg h]
    obtain ⟨x, y, hx, hy, x0, y0, xy, hd⟩ := diaI_inv (Int.not_lt.1 h)
    rw [hd] at c ⊢
    have c1 := fun w => parts_yes a b x y w hx hy
    have c2 := fun w => size_any (x + y) w
    have bd := siz_bd (x + y)
    rw [hy]
    show Calls _ _ _ _ fun e w' => e = .returned (.int .i64 (siz (x + y) + y)) ∧ w = w'
    have C := Lib.hid c
    have C1 := Lib.hid c1
    have C2 := Lib.hid c2
    generalize hs : siz (x + y) = s at *
    clear c c1 c2 hs hd hx hy h
    go_enter Try.func11, Try.ntmps11
    go_wp2_with fail
    refine (C.out _).mono ?_
    rintro e w' ⟨rfl, rfl⟩
    go_wp2_with fail
    refine (C1.out _).mono ?_
    rintro e w' ⟨rfl, rfl⟩
    go_wp2_with fail
    refine (C2.out _).mono ?_
    rintro e w' ⟨rfl, rfl⟩
    go_wp2_with fail
    go_ret
    exact ⟨rfl, rfl⟩

def fl (n : Int) : Nat := floatOfInt .f64 n

theorem add_zero_fl : ∀ k : Nat, k < 64 → floatBits .add .f64 (floatOfInt .f64 k) 0 = some (floatOfInt .f64 k) ∧ floatBits .add .f64 0 (floatOfInt .f64 k) = some (floatOfInt .f64 k) := by
  decide +kernel

theorem sum_fl (x y : Int) (x0 : 0 ≤ x) (x1 : x < 64) (y0 : 0 ≤ y) (y1 : y < 64) : cSumBits .add .f64 (floatOfInt .f64 x) 0 0 (floatOfInt .f64 y) = some (fl x, fl y) := by
  have hx := (add_zero_fl x.toNat (by omega)).1
  have hy := (add_zero_fl y.toNat (by omega)).2
  rw [show ((x.toNat : Nat) : Int) = x from by omega] at hx
  rw [show ((y.toNat : Nat) : Int) = y from by omega] at hy
  unfold cSumBits
  rw [hx, hy]
  rfl

theorem at_out (n : Int) (w : World) (h : n < 0 ∨ 2080 ≤ n) : Calls Try.prog 17 #[.int .i64 n] w fun e w' => e = .returned (.complex .f64 0 0) ∧ w = w' := by
  have c := fun w => size_any 64 w
  rw [show siz 64 = 2080 from by decide] at c
  have C := Lib.hid c
  clear c
  by_cases h1 : n < 0
  · clear h
    go_enter Try.func17, Try.ntmps17
    go_wp2_with fail
    go_ret
    exact ⟨rfl, rfl⟩
  · have h2 : 2080 ≤ n := by omega
    clear h
    go_enter Try.func17, Try.ntmps17
    go_wp2_with fail
    refine (C.out _).mono ?_
    rintro e w' ⟨rfl, rfl⟩
    go_wp2_with fail
    go_ret
    exact ⟨rfl, rfl⟩

end Go.Proofs.Ytaplhooapgfdgaa
