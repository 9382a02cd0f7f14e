/-
  The walks of the document's side for points: part, Of, and Is.
-/
import Derived.Test.YtaplhooapgfdgaaBackWalk
namespace Go.Proofs.Ytaplhooapgfdgaa
open Go.RowKit

theorem ret_pair {a b : Int} {c d : Bool} (h : a = b) (h' : c = d) : Ending.returned (.tuple #[.int .i64 a, .bool c]) = .returned (.tuple #[.int .i64 b, .bool d]) := by rw [h, h']

theorem part_out (b : Nat) (w : World) (h : out b) : Calls Try.prog 18 #[.float .f64 b] w fun e w' => SomeNo w e w' := by
  have hh := out_part h
  unfold loW hiW at hh
  rcases hh with h1 | ⟨h1, h2⟩ | ⟨h1, h2, h3⟩
  · have h1 : (FloatKind.f64.format.order b b != some .eq) = true := h1
    clear h
    go_enter Try.func18, Try.ntmps18
    go_wp2
    go_ret2
    exact ⟨0, rfl, rfl⟩
  · have h1 : (FloatKind.f64.format.order b b != some .eq) = false := h1
    have h2 : (FloatKind.f64.format.order b 13920626448202203136 == some .lt) = true := h2
    clear h
    go_enter Try.func18, Try.ntmps18
    go_wp2
    go_ret2
    exact ⟨0, rfl, rfl⟩
  · have h1 : (FloatKind.f64.format.order b b != some .eq) = false := h1
    have h2 : (FloatKind.f64.format.order b 13920626448202203136 == some .lt) = false := h2
    have h3 : (FloatKind.f64.format.order b 4697254411347427328 == some .gt) = true := h3
    clear h
    go_enter Try.func18, Try.ntmps18
    go_wp2
    go_ret2
    exact ⟨0, rfl, rfl⟩

def FoundAt (V : Int) (w : World) (e : Ending) (w' : World) : Prop := ∃ n : Int, n * scale ≤ V ∧ V < (n + 1) * scale ∧ e = .returned (.tuple #[.int .i64 n, .bool (decide (n * scale = V))]) ∧ w = w'

set_option maxHeartbeats 1000000 in
theorem part_in (b : Nat) (V : Int) (w : World) (h : inn b V) : Calls Try.prog 18 #[.float .f64 b] w fun e w' => FoundAt V w e w' := by
  have h1 := self_in h
  have h2 := lss_in h
  have h3 := gtr_in h
  unfold loW at h2
  unfold hiW at h3
  have h1 : (FloatKind.f64.format.order b b != some .eq) = false := h1
  have h2 : (FloatKind.f64.format.order b 13920626448202203136 == some .lt) = false := h2
  have h3 : (FloatKind.f64.format.order b 4697254411347427328 == some .gt) = false := h3
  have LE := Lib.hid (fun (n : Int) (hn : -1048576 ≤ n ∧ n ≤ 1048576) => leq_val (n := n) h.1 (by unfold scaleN; omega))
  have EQ := Lib.hid (fun (n : Int) (hn : -1048576 ≤ n ∧ n ≤ 1048576) => eql_in (n := n) h.1 (by unfold scaleN; omega))
  have hs := scale_pos
  have L0 := Lib.hid h.2.1
  have U0 := Lib.hid (show V < (1048576 + 1) * scale by have := h.2.2; omega)
  clear h hs
  go_enter Try.func18, Try.ntmps18
  go_wp2
  go_loop [4, 5] (fun l u => ∃ lo hi : Int, -1048576 ≤ lo ∧ lo ≤ hi ∧ hi ≤ 1048576 ∧ Hid (lo * scale ≤ V) ∧ Hid (V < (hi + 1) * scale) ∧ l = .int .i64 lo ∧ u = .int .i64 hi) (fun l u => (intOf u - intOf l).toNat)
  case atStart => exact ⟨_, _, by omega, by omega, by omega, L0, U0, rfl, rfl⟩
  case round =>
    obtain ⟨lo, hi, b1, b2, b3, HL, HU, rfl, rfl⟩ := hrel
    by_cases hlt : lo < hi
    · by_cases hm : (lo + (hi - lo + 1) / 2) * scale ≤ V
      · have ht := LE.out (lo + (hi - lo + 1) / 2) ⟨by omega, by omega⟩
        rw [decide_eq_true hm] at ht
        have ht : (FloatKind.f64.format.order (floatOfInt .f64 (lo + (hi - lo + 1) / 2)) b == some .lt || FloatKind.f64.format.order (floatOfInt .f64 (lo + (hi - lo + 1) / 2)) b == some .eq) = true := ht
        have HM := Lib.hid hm
        clear hm
        go_wp2
        go_round
        case rel => exact ⟨_, _, by omega, by omega, by omega, HM, HU, rfl, rfl⟩
        case measure => simp [intOf]; omega
      · have ht := LE.out (lo + (hi - lo + 1) / 2) ⟨by omega, by omega⟩
        rw [decide_eq_false hm] at ht
        have ht : (FloatKind.f64.format.order (floatOfInt .f64 (lo + (hi - lo + 1) / 2)) b == some .lt || FloatKind.f64.format.order (floatOfInt .f64 (lo + (hi - lo + 1) / 2)) b == some .eq) = false := ht
        have HM := Lib.hid (show V < (lo + (hi - lo + 1) / 2 - 1 + 1) * scale by rw [show lo + (hi - lo + 1) / 2 - 1 + 1 = lo + (hi - lo + 1) / 2 from by omega]; omega)
        clear hm
        go_wp2
        go_round
        case rel => exact ⟨_, _, by omega, by omega, by omega, HL, HM, rfl, rfl⟩
        case measure => simp [intOf]; omega
    · obtain rfl : lo = hi := by omega
      have hq := EQ.out lo ⟨by omega, by omega⟩
      have hq : (FloatKind.f64.format.order (floatOfInt .f64 lo) b == some .eq) = decide (lo * scale = V) := hq
      have Hq := Lib.hid hq
      clear hq
      go_wp2
      go_ret2
      exact ⟨lo, HL.out, HU.out, ret_pair rfl Hq.out, rfl⟩

theorem part_yes (b : Nat) (n : Int) (w : World) (h : wh b = some n) : Calls Try.prog 18 #[.float .f64 b] w fun e w' =>
    e = .returned (.tuple #[.int .i64 n, .bool true]) ∧ w = w' := by
  obtain ⟨h0, h1, h2⟩ := wh_some h
  have hs := scale_pos
  refine (part_in b (n * scale) w ⟨h0, Int.mul_le_mul_of_nonneg_right h1 (by omega), Int.mul_le_mul_of_nonneg_right h2 (by omega)⟩).mono ?_
  rintro e w' ⟨m, l, u, he, hw⟩
  have g1 : m ≤ n := Int.le_of_mul_le_mul_right l hs
  have g2 : n < m + 1 := Int.lt_of_mul_lt_mul_right u (by omega)
  obtain rfl : m = n := by omega
  exact ⟨by rw [he, decide_eq_true rfl], hw⟩

theorem part_no (b : Nat) (w : World) (h : wh b = none) : Calls Try.prog 18 #[.float .f64 b] w fun e w' => SomeNo w e w' := by
  rcases wh_none h with h | ⟨V, h0, h1, h2, h3⟩
  · exact part_out b w h
  · refine (part_in b V w ⟨h0, h1, h2⟩).mono fun e w' ⟨m, l, u, he, hw⟩ => ⟨m, ?_, hw⟩
    rw [he, decide_eq_false (h3 _)]

/-- A point's cells. -/
def pval : Option Int → Option Int → Value
  | some x, some y => .agg #[.int .i64 x, .int .i64 y, .bool true]
  | _, _ => .agg #[.int .i64 0, .int .i64 0, .bool false]

theorem below1 (w : World) (o : Obj) (a : Addr) (u : Value) (h : w.heap.size ≤ a.block) : Below w.heap.size w ((w.alloc o).setCell a u) :=
  ((Below.refl _ _).alloc (Nat.le_refl _) _).setCell h _

theorem of_yes (a b : Nat) (x y : Int) (w : World) (ha : wh a = some x) (hb : wh b = some y) : Calls Try.prog 6 #[.float .f64 a, .float .f64 b] w fun e w' =>
    e = .returned (.agg #[.int .i64 x, .int .i64 y, .bool true]) ∧ Below w.heap.size w w' := by
  have Ca := Lib.hid (fun w => part_yes a x w ha)
  have Cb := Lib.hid (fun w => part_yes b y w hb)
  clear ha hb
  go_enter Try.func6, Try.ntmps6
  go_wp2_with fail
  refine (Ca.out _).mono ?_
  rintro e w' ⟨rfl, rfl⟩
  go_wp2_with fail
  refine (Cb.out _).mono ?_
  rintro e w' ⟨rfl, rfl⟩
  go_wp2_with fail
  refine bodyPost_ret (v := .agg #[.int .i64 x, .int .i64 y, .bool true]) (by simp [results, Try.results6, go_sem]) rfl ⟨rfl, ?_⟩
  exact (Below.refl _ _).alloc (Nat.le_refl _) _

theorem of_no (a b : Nat) (w : World) (h : wh a = none ∨ wh b = none) : Calls Try.prog 6 #[.float .f64 a, .float .f64 b] w fun e w' =>
    e = .returned (.agg #[.int .i64 0, .int .i64 0, .bool false]) ∧ Below w.heap.size w w' := by
  by_cases ha : wh a = none
  · have Ca := Lib.hid (fun w => part_no a w ha)
    match hb : wh b with
    | none =>
      have Cb := Lib.hid (fun w => part_no b w hb)
      clear ha hb h
      go_enter Try.func6, Try.ntmps6
      go_wp2_with fail
      refine (Ca.out _).mono ?_
      rintro e w' ⟨x, rfl, rfl⟩
      go_wp2_with fail
      refine (Cb.out _).mono ?_
      rintro e w' ⟨y, rfl, rfl⟩
      go_wp2_with fail
      refine bodyPost_ret (v := .agg #[.int .i64 0, .int .i64 0, .bool false]) (by simp [results, Try.results6, go_sem]) rfl ⟨rfl, ?_⟩
      exact (Below.refl _ _).alloc (Nat.le_refl _) _
    | some y =>
      have Cb := Lib.hid (fun w => part_yes b y w hb)
      clear ha hb h
      go_enter Try.func6, Try.ntmps6
      go_wp2_with fail
      refine (Ca.out _).mono ?_
      rintro e w' ⟨x, rfl, rfl⟩
      go_wp2_with fail
      refine (Cb.out _).mono ?_
      rintro e w' ⟨rfl, rfl⟩
      go_wp2_with fail
      refine bodyPost_ret (v := .agg #[.int .i64 0, .int .i64 0, .bool false]) (by simp [results, Try.results6, go_sem]) rfl ⟨rfl, ?_⟩
      exact (Below.refl _ _).alloc (Nat.le_refl _) _
  · obtain ⟨x, ha⟩ := Option.ne_none_iff_exists'.1 ha
    have hb : wh b = none := by rcases h with h | h; rw [ha] at h; cases h; exact h
    have Ca := Lib.hid (fun w => part_yes a x w ha)
    have Cb := Lib.hid (fun w => part_no b w hb)
    clear ha hb h
    go_enter Try.func6, Try.ntmps6
    go_wp2_with fail
    refine (Ca.out _).mono ?_
    rintro e w' ⟨rfl, rfl⟩
    go_wp2_with fail
    refine (Cb.out _).mono ?_
    rintro e w' ⟨y, rfl, rfl⟩
    go_wp2_with fail
    refine bodyPost_ret (v := .agg #[.int .i64 0, .int .i64 0, .bool false]) (by simp [results, Try.results6, go_sem]) rfl ⟨rfl, ?_⟩
    exact (Below.refl _ _).alloc (Nat.le_refl _) _

theorem of_any (a b : Nat) (w : World) : Calls Try.prog 6 #[.float .f64 a, .float .f64 b] w fun e w' =>
    e = .returned (pval (wh a) (wh b)) ∧ Below w.heap.size w w' := by
  by_cases h : wh a = none ∨ wh b = none
  · have : pval (wh a) (wh b) = .agg #[.int .i64 0, .int .i64 0, .bool false] := by
      rcases h with h | h
      · rw [h]; rfl
      · rw [h]; cases wh a <;> rfl
    rw [this]
    exact of_no a b w h
  · obtain ⟨x, ha⟩ := Option.ne_none_iff_exists'.1 (fun e => h (.inl e))
    obtain ⟨y, hb⟩ := Option.ne_none_iff_exists'.1 (fun e => h (.inr e))
    rw [ha, hb]
    exact of_yes a b x y w ha hb

theorem ne_zero_fl : ∀ k : Nat, k < 64 → k ≠ 0 → (Ieee.double.order (floatOfInt .f64 k) 0 != some .eq) = true := by decide +kernel
theorem self_fl (n : Int) (h0 : 0 ≤ n) (h1 : n ≤ 64) : (Ieee.double.order (floatOfInt .f64 n) (floatOfInt .f64 n) != some .eq) = false := by
  rw [order_val (fval_ofInt n (by unfold scaleN; omega)) (fval_ofInt n (by unfold scaleN; omega)), compare_eq_ rfl]; rfl
theorem inv_zero : floatBits .quo .f64 4607182418800017408 0 = some 9218868437227405312 := by decide +kernel
theorem inf_gtr : (Ieee.double.order 9218868437227405312 0 == some .gt) = true := by decide +kernel
theorem zero_neq : (Ieee.double.order 0 0 != some .eq) = false := by decide +kernel

set_option maxHeartbeats 400000 in
theorem is4_yes (x y : Int) (ok : Bool) (w : World) (x0 : 0 ≤ x) (x1 : x < 64) (y0 : 0 ≤ y) (y1 : y < 64) :
    Calls Try.prog 20 #[.float .f64 (fl x), .float .f64 (fl y), .agg #[.int .i64 x, .int .i64 y, .bool ok]] w fun e w' =>
      e = .returned (.bool true) ∧ Below w.heap.size w w' := by
  have sx := self_fl x x0 (by omega)
  have sy := self_fl y y0 (by omega)
  have sx : (FloatKind.f64.format.order (floatOfInt .f64 x) (floatOfInt .f64 x) != some .eq) = false := sx
  have sy : (FloatKind.f64.format.order (floatOfInt .f64 y) (floatOfInt .f64 y) != some .eq) = false := sy
  have hdiv := fun w : World => run_float_arith (P := Try.prog) w .quo 22 .f64 4607182418800017408 0 _ inv_zero
  have hinf : (FloatKind.f64.format.order 9218868437227405312 0 == some .gt) = true := inf_gtr
  have hz : (FloatKind.f64.format.order 0 0 != some .eq) = false := zero_neq
  have f0 : floatOfInt .f64 0 = 0 := by decide
  unfold fl
  by_cases hx : x = 0
  · subst hx
    rw [f0]
    by_cases hy : y = 0
    · subst hy
      rw [f0]
      clear sx sy
      go_enter Try.func20, Try.ntmps20
      go_wp2
      go_ret
      exact ⟨rfl, (Below.refl _ _).alloc (Nat.le_refl _) _⟩
    · have ny := ne_zero_fl y.toNat (by omega) (by omega)
      rw [show ((y.toNat : Nat) : Int) = y from by omega] at ny
      have ny : (FloatKind.f64.format.order (floatOfInt .f64 y) 0 != some .eq) = true := ny
      clear sx hy
      go_enter Try.func20, Try.ntmps20
      go_wp2
      go_ret
      exact ⟨rfl, (Below.refl _ _).alloc (Nat.le_refl _) _⟩
  · have nx := ne_zero_fl x.toNat (by omega) (by omega)
    rw [show ((x.toNat : Nat) : Int) = x from by omega] at nx
    have nx : (FloatKind.f64.format.order (floatOfInt .f64 x) 0 != some .eq) = true := nx
    by_cases hy : y = 0
    · subst hy
      rw [f0]
      clear sy hx
      go_enter Try.func20, Try.ntmps20
      go_wp2
      go_ret
      exact ⟨rfl, (Below.refl _ _).alloc (Nat.le_refl _) _⟩
    · have ny := ne_zero_fl y.toNat (by omega) (by omega)
      rw [show ((y.toNat : Nat) : Int) = y from by omega] at ny
      have ny : (FloatKind.f64.format.order (floatOfInt .f64 y) 0 != some .eq) = true := ny
      clear hx hy
      go_enter Try.func20, Try.ntmps20
      go_wp2
      go_ret
      exact ⟨rfl, (Below.refl _ _).alloc (Nat.le_refl _) _⟩

theorem is_yes (x y : Int) (ok : Bool) (w : World) (x0 : 0 ≤ x) (x1 : x < 64) (y0 : 0 ≤ y) (y1 : y < 64) :
    Calls Try.prog 16 #[.complex .f64 (fl x) (fl y), .agg #[.int .i64 x, .int .i64 y, .bool ok]] w fun e w' =>
      e = .returned (.bool true) ∧ Below w.heap.size w w' := by
  have C := Lib.hid (fun w => is4_yes x y ok w x0 x1 y0 y1)
  go_enter Try.func16, Try.ntmps16
  go_wp2_with fail
  refine (C.out _).mono ?_
  rintro e w' ⟨rfl, hb⟩
  go_wp2_with fail
  go_ret
  exact ⟨rfl, ((Below.refl _ _).alloc (Nat.le_refl _) _).trans (hb.mono (by simp))⟩

end Go.Proofs.Ytaplhooapgfdgaa
