/-
  The points of a triangle, as the document lists them: plain facts, and the walk of List.
-/
import Derived.Test.YtaplhooapgfdgaaRefA
namespace Go.Proofs.Ytaplhooapgfdgaa
open Go.RowKit

def sizN : Nat → Nat
  | 0 => 0
  | d + 1 => sizN d + d + 1

theorem sizN_succ (d : Nat) : sizN (d + 1) = sizN d + d + 1 := rfl

theorem siz_nat (d : Nat) (h : d ≤ 64) : siz d = sizN d := by
  induction d with
  | zero => decide
  | succ d ih =>
    have := siz_succ d (by omega) (by omega)
    rw [show ((d + 1 : Nat) : Int) = d + 1 from by omega, this, ih (by omega)]
    rw [sizN_succ]
    omega

theorem sizN_lt {d e : Nat} (h : d < e) : sizN d + d < sizN e := by
  induction e with
  | zero => omega
  | succ e ih =>
    rw [sizN_succ]
    by_cases he : d < e
    · have := ih he; omega
    · obtain rfl : d = e := by omega
      omega

theorem sizN_le {d e : Nat} (h : d ≤ e) : sizN d ≤ sizN e := by
  rcases Nat.lt_or_eq_of_le h with h | rfl
  · have := sizN_lt h; omega
  · exact Nat.le_refl _

theorem name_inj {d y D Y : Nat} (h : y ≤ d) (H : Y ≤ D) (e : sizN d + y = sizN D + Y) : d = D ∧ y = Y := by
  rcases Nat.lt_trichotomy d D with g | g | g
  · have := sizN_lt g; omega
  · subst g; exact ⟨rfl, by omega⟩
  · have := sizN_lt g; omega

theorem name_split (m : Nat) : ∃ d y, y ≤ d ∧ m = sizN d + y := by
  induction m with
  | zero => exact ⟨0, 0, by omega, rfl⟩
  | succ m ih =>
    obtain ⟨d, y, h, e⟩ := ih
    by_cases hy : y < d
    · exact ⟨d, y + 1, by omega, by omega⟩
    · refine ⟨d + 1, 0, by omega, ?_⟩
      rw [sizN_succ]
      omega

/-- The cells of the first m points. -/
def IsPts (m : Nat) (xs : List Value) : Prop := ∀ d y : Nat, y ≤ d → sizN d + y < m →
  xs[3 * (sizN d + y)]? = some (.int .i64 ((d : Int) - y)) ∧ xs[3 * (sizN d + y) + 1]? = some (.int .i64 y) ∧ xs[3 * (sizN d + y) + 2]? = some (.bool true)

theorem isPts_nil : IsPts 0 [] := fun d y _ h => absurd h (by omega)

theorem isPts_push {D Y : Nat} {xs : List Value} (hY : Y ≤ D) (hl : xs.length = (sizN D + Y) * 3) (h : IsPts (sizN D + Y) xs) :
    IsPts (sizN D + Y + 1) (xs ++ [.int .i64 ((D : Int) - Y), .int .i64 Y, .bool true]) := by
  intro d y hy hlt
  by_cases hold : sizN d + y < sizN D + Y
  · obtain ⟨a, b, c⟩ := h d y hy hold
    refine ⟨?_, ?_, ?_⟩
    · rw [List.getElem?_append_left (by omega)]; exact a
    · rw [List.getElem?_append_left (by omega)]; exact b
    · rw [List.getElem?_append_left (by omega)]; exact c
  · obtain ⟨rfl, rfl⟩ := name_inj hy hY (by omega)
    refine ⟨?_, ?_, ?_⟩
    · rw [List.getElem?_append_right (by omega), show 3 * (sizN d + y) - xs.length = 0 from by omega]; rfl
    · rw [List.getElem?_append_right (by omega), show 3 * (sizN d + y) + 1 - xs.length = 1 from by omega]; rfl
    · rw [List.getElem?_append_right (by omega), show 3 * (sizN d + y) + 2 - xs.length = 2 from by omega]; rfl

/-- A slice of the first m points, in memory of its own. -/
def Pts (w : World) (B : Nat) (v : Value) (m : Nat) : Prop := ∃ xs, w.ownsRow B 25 3 v m xs ∧ IsPts m xs

theorem Pts.nil (w : World) (B : Nat) : Pts w B (.slice none 0 0) 0 := ⟨[], ⟨rfl, .inl ⟨rfl, rfl⟩⟩, isPts_nil⟩

theorem infoP : (Try.prog.info? 25).map (fun i => (i.zero, i.size, i.bytes)) = some (some (.agg #[.int .i64 0, .int .i64 0, .bool false]), 3, 24) := by kernel_rfl

/-- How many diagonals List(n) has. -/
def diags (n : Int) : Nat := (min n 64).toNat
theorem diags_le (n : Int) : diags n ≤ 64 := by unfold diags; omega
theorem diags_siz (n : Int) : siz n = sizN (diags n) := by
  rw [← siz_nat _ (diags_le n)]
  unfold diags siz
  by_cases h : n < 0
  · rw [if_pos h, show (min n 64).toNat = 0 from by omega]
    decide
  · rw [if_neg h]
    by_cases h1 : 64 < n
    · rw [if_pos h1, show (min n 64).toNat = 64 from by omega]; decide
    · rw [if_neg h1, show ((min n 64).toNat : Int) = n from by omega, if_neg h, if_neg h1]

def ListPost (n : Int) (w : World) (e : Ending) (w' : World) : Prop := ∃ v, e = .returned v ∧ Pts w' w.heap.size v (sizN (diags n)) ∧ Below w.heap.size w w'

set_option maxHeartbeats 1000000 in
theorem list_any (n : Int) (w : World) : Calls Try.prog 8 #[.int .i64 n] w fun e w' => ListPost n w e w' := by
  obtain ⟨i0, hi, hz0, hz1, hz2⟩ := info_parts infoP
  have HI := Lib.hid hi
  have HZ0 := Lib.hid hz0
  have HZ1 := Lib.hid hz1
  have HZ2 := Lib.hid hz2
  clear hi hz0 hz1 hz2
  go_enter Try.func8, Try.ntmps8
  go_wp2_with fail
  go_loopw [3, 4] (fun v t wr => ∃ d : Nat, d ≤ diags n ∧ t = .int .i64 d ∧ Pts wr w.heap.size v (sizN d) ∧ Below w.heap.size w wr) (fun _ t _ => 65 - (intOf t).toNat)
  case atStart => exact ⟨0, by omega, rfl, Pts.nil _ _, Below.refl _ _⟩
  case round =>
    obtain ⟨wo, rfl⟩ : ∃ wo : World, wo = wr := ⟨_, rfl⟩
    obtain ⟨d, hd, rfl, hp, hb⟩ := hrel
    have hdn : diags n ≤ 64 := diags_le n
    by_cases hlt : d < diags n
    · have h1 : (d : Int) < n := by unfold diags at hlt; omega
      have h2 : (d : Int) < 64 := by omega
      have HB := Lib.hid hb
      have HP := Lib.hid hp
      clear hb hp
      go_wp2_with fail
      go_loopw [3, 5] (fun v t wr => ∃ y : Nat, y ≤ d + 1 ∧ t = .int .i64 y ∧ Hid (Pts wr w.heap.size v (sizN d + y)) ∧ Hid (Below w.heap.size w wr)) (fun _ t _ => 65 - (intOf t).toNat)
      case atStart => exact ⟨0, by omega, rfl, HP, HB⟩
      case round =>
        obtain ⟨y, hy, rfl, HP1, HB1⟩ := hrel
        by_cases hyd : y ≤ d
        · obtain ⟨xs, hown, hpts⟩ := HP1.out
          have hb1 := HB1.out
          have hsz := sizN_le (show d ≤ 64 by omega)
          have h64 : sizN 64 = 2080 := by decide
          have hpush := isPts_push hyd hown.1 hpts
          have HPU := Lib.hid hpush
          have HO := Lib.hid hown
          have hB : w.heap.size ≤ wr.heap.size := hb1.size
          have HC := Lib.hid (show (sizN d + y + 1) * 24 ≤ 140737488355328 by omega)
          clear hown hpts hb1 hsz h64 hpush
          go_wp2_with (at_builtin; go_loud (refine wpList_push (news := [.int .i64 ((d : Int) - y), .int .i64 y, .bool true]) rfl _ _ 28 rfl w.heap.size i0 _ 3 24 Try.underlying28 HI.out HZ0.out HZ1.out HZ2.out rfl (by decide) _ _ _ rfl HO.out rfl rfl (by simp [Value.oneCell']) (by decide) HC.out hB ?_); intro v' w1 hown' _ hb')
          have HP2 := Lib.hid (show Pts w1 w.heap.size v' (sizN d + (y + 1)) from ⟨_, hown', HPU.out⟩)
          have HB2 := Lib.hid (HB1.out.trans hb')
          clear hown' hb' HPU HO HP1 HB1 HP HB
          go_wp2_with fail
          go_roundw
          case rel => exact ⟨y + 1, by omega, by go_num, HP2, HB2⟩
          case measure => simp [intOf]; omega
        · obtain rfl : y = d + 1 := by omega
          have HP2 := Lib.hid (show Pts wr w.heap.size _ (sizN (d + 1)) from HP1.out)
          clear HP1 HP HB
          go_wp2_with fail
          go_roundw
          case rel => exact ⟨d + 1, by omega, by go_num, HP2.out, HB1.out⟩
          case measure => simp [intOf]; omega
    · obtain rfl : d = diags n := by omega
      by_cases h1 : (diags n : Int) < n
      · have h2 : ¬ (diags n : Int) < 64 := by unfold diags at h1 ⊢; omega
        have HB := Lib.hid hb
        have HP := Lib.hid hp
        clear hb hp
        go_wp2_with fail
        go_ret
        exact ⟨_, rfl, HP.out, HB.out⟩
      · have HB := Lib.hid hb
        have HP := Lib.hid hp
        clear hb hp
        go_wp2_with fail
        go_ret
        exact ⟨_, rfl, HP.out, HB.out⟩

end Go.Proofs.Ytaplhooapgfdgaa
