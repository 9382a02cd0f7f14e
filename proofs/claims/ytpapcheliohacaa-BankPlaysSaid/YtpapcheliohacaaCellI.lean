/-
  A cell in memory.
-/
import Derived.Test.YtpapcheliohacaaOver
set_option linter.unusedVariables false
set_option linter.unusedSimpArgs false
namespace Go.Proofs.Ytpapcheliohacaa
open Go.RowKit

/-- An access at a place. -/
def AccAt (w : World) (b o : Nat) (a : Acc8) (m : Value) : Prop := w.cell? ⟨b, o, none⟩ = some (.bool a.on) ∧ w.cell? ⟨b, o + 1, none⟩ = some (.bool a.wr) ∧ w.cell? ⟨b, o + 2, none⟩ = some (.int .i64 a.val) ∧
  w.cell? ⟨b, o + 3, none⟩ = some (.bool a.ov) ∧ w.cell? ⟨b, o + 4, none⟩ = some m
structure CellIs (w : World) (h B : Nat) (c : CS) (ms : Nat → Value) : Prop where
  sz : B ≤ w.heap.size
  k0 : w.cell? ⟨h, 0, none⟩ = some (.int .i64 c.kind)
  k1 : w.cell? ⟨h, 1, none⟩ = some (.int .i64 c.top)
  k2 : w.cell? ⟨h, 2, none⟩ = some (.int .i64 c.value)
  acc : ∀ i, i < 8 → AccAt w h (3 + i * 5) (c.bys i) (ms i)
  fz : ∀ j, w.frozen? ⟨h, j, none⟩ = false
  own : ∀ i, i < 8 → MayIs w B (ms i) (c.bys i).may
  apart : ∀ i, i < 8 → (ms i).ownBlock ≠ some h
  two : ∀ i j, i < 8 → j < 8 → i ≠ j → ∀ k, (ms i).ownBlock = some k → (ms j).ownBlock ≠ some k
theorem CellIs.lt {w : World} {h B : Nat} {c : CS} {ms : Nat → Value} (H : CellIs w h B c ms) : h < w.heap.size := cell_lt H.k0

theorem value_any (h B : Nat) (c : CS) (ms : Nat → Value) (w : World) (H : CellIs w h B c ms) : Calls Try.prog 14 #[.pointer (some ⟨h, 0, none⟩)] w fun e w' => e = .returned (.int .i64 c.value) ∧ w' = w := by
  have k2 := H.k2
  clear H
  go_enter Try.func14, Try.ntmps14
  go_wp2_with fail
  go_ret
  exact ⟨rfl, rfl⟩
theorem busyN_le (c : CS) : ∀ n, busyN c n ≤ n
  | 0 => Nat.le_refl _
  | n + 1 => by
    have := busyN_le c n
    unfold busyN
    split <;> omega
set_option maxRecDepth 10000 in
theorem busy_any (h B : Nat) (c : CS) (ms : Nat → Value) (w : World) (H : CellIs w h B c ms) : Calls Try.prog 15 #[.pointer (some ⟨h, 0, none⟩)] w fun e w' => e = .returned (.int .i64 (busyN c 8)) ∧ w' = w := by
  have HH := Lib.hid H
  clear H
  go_enter Try.func15, Try.ntmps15
  go_wp2_with fail
  go_loopw [3, 7] (fun u t wr => ∃ k : Nat, k ≤ 8 ∧ u = .int .i64 (busyN c k) ∧ t = .int .i64 k ∧ wr = w) (fun _ t _ => 8 - (intOf t).toNat)
  case atStart => exact ⟨0, by omega, rfl, rfl, by first | rfl | trivial⟩
  case round =>
    obtain ⟨k, hk, rfl, rfl, rfl⟩ := hrel
    by_cases hlt : k < 8
    · obtain ⟨a0, -⟩ := HH.out.acc k hlt
      have hb := busyN_le c k
      have hs : busyN c (k + 1) = busyN c k + if (c.bys k).on = true then 1 else 0 := rfl
      generalize busyN c k = m at *
      have hm : (m : Int) ≤ 8 := by omega
      have hki : (k : Int) < 8 := by omega
      have hm2 : wrap64 ((m : Int) + 1) = (m : Int) + 1 := IntWalk.wrap64_in _ (by omega)
      cases hon : (c.bys k).on
      · rw [hon] at a0 hs
        have HS := Lib.hid hs
        clear hs hon
        go_wp2_with fail
        go_roundw
        case rel => exact ⟨k + 1, by omega, by rw [HS.out]; rfl, by go_num, by first | rfl | trivial⟩
        case measure => simp [intOf]; omega
      · rw [hon] at a0 hs
        have HS := Lib.hid hs
        clear hs hon
        go_wp2_with fail
        go_roundw
        case rel => exact ⟨k + 1, by omega, by rw [HS.out]; simp, by go_num, by first | rfl | trivial⟩
        case measure => simp [intOf]; omega
    · obtain rfl : k = 8 := by omega
      clear hlt
      go_wp2_with fail
      go_ret
      exact ⟨rfl, rfl⟩

end Go.Proofs.Ytpapcheliohacaa
