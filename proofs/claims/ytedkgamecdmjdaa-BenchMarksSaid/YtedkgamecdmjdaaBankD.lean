/-
  bank.Count.
-/
import Derived.Test.YtedkgamecdmjdaaBankC
set_option linter.unusedVariables false
set_option linter.unusedSimpArgs false
namespace Go.Proofs.Ytedkgamecdmjdaa
open Go.RowKit

theorem cntK_in {l : List SD} : ∀ {k}, allF l k = true → 0 ≤ cntK l k ∧ cntK l k ≤ 32769
  | 0, _ => by unfold cntK; omega
  | k + 1, h => by
    have h1 : allF l k = true ∧ fineS (l.getD k sd0) = true := by
      unfold allF at h ⊢
      rw [List.range_succ, List.all_append, Bool.and_eq_true] at h
      exact ⟨h.1, by simpa using h.2⟩
    have ih := cntK_in h1.1
    have h2 : 0 ≤ (l.getD k sd0).many := by
      have := h1.2
      unfold fineS at this
      rw [Bool.and_eq_true] at this
      exact of_decide_eq_true this.1
    unfold cntK minI
    split <;> split <;> omega
theorem allF_succ {l : List SD} {k : Nat} : allF l (k + 1) = (allF l k && fineS (l.getD k sd0)) := by
  unfold allF; rw [List.range_succ, List.all_append]; simp
theorem allF_no {l : List SD} {k n : Nat} (hk : k < n) (h : fineS (l.getD k sd0) = false) : allF l n = false := by
  unfold allF
  rw [List.all_eq_false]; exact ⟨k, List.mem_range.2 hk, by rw [h]; simp⟩

set_option maxRecDepth 10000 in
set_option maxHeartbeats 1000000 in
theorem count_any (l : List SD) (A : Option Addr) (c : Nat) (w : World) (hl : l.length ≤ 9223372036854775807) (hr : StripRow w A l) :
    Calls Try.prog 39 #[.slice A l.length c] w fun e w' => e = .returned (.tuple #[.int .i64 (countP l).1, .int .i64 (countP l).2]) ∧ Up w w' := by
  have HR := Lib.hid hr
  have hli : (l.length : Int) ≤ 9223372036854775807 := by omega
  have HA0 : Hid (allF l 0 = true) := Lib.hid rfl
  have HCP : Hid (countP l = if allF l l.length then (if 32768 < cntK l l.length then (0, 5) else (cntK l l.length, 0)) else (0, 1)) := Lib.hid rfl
  have HST : Hid (∀ k, cntK l (k + 1) = minI (cntK l k + minI (l.getD k sd0).many 32769) 32769) := Lib.hid (fun _ => rfl)
  have HIN := Lib.hid (fun k (h : allF l k = true) => cntK_in h)
  clear hr hl
  go_enter Try.func39, Try.ntmps39
  go_wp2_with fail
  go_loopw [4, 9] (fun m x wr => ∃ k : Nat, k ≤ l.length ∧ x = .int .i64 k ∧ m = .int .i64 (cntK l k) ∧ Hid (allF l k = true) ∧ Hid (Up w wr)) (fun _ x _ => l.length - (intOf x).toNat)
  case atStart => exact ⟨0, by omega, rfl, rfl, HA0, Lib.hid (Up.refl _)⟩
  case round =>
    obtain ⟨k, hk, rfl, rfl, HA, HV⟩ := hrel
    have HC := Lib.hid (HIN.out k HA.out)
    obtain ⟨hc0, hc1⟩ := HC.out
    by_cases hlt : k < l.length
    · have hki : (k : Int) < l.length := by omega
      have hk0 : (0 : Int) ≤ k := by omega
      have HLT := Lib.hid hlt
      obtain ⟨b, off, rfl, x0, x1, x2⟩ := HR.out.up HV.out k hlt
      have HFS := Lib.hid (fun W => fineS_any (l.getD k sd0) W)
      have HS := Lib.hid (HST.out k)
      have HAS : Hid (allF l (k + 1) = (allF l k && fineS (l.getD k sd0))) := Lib.hid allF_succ
      have HNO := Lib.hid (fun (h : fineS (l.getD k sd0) = false) => allF_no (n := l.length) hlt h)
      have HIK := Lib.hid (fun (h : allF l (k + 1) = true) => HIN.out (k + 1) h)
      generalize hfs : fineS (l.getD k sd0) = fs at *
      have HFE := Lib.hid hfs
      clear hfs
      generalize l.getD k sd0 = s at *
      obtain ⟨M, K, T⟩ := s
      dsimp only at x0 x1 x2 HFS HS
      have HB := Lib.hid (heap_alloc_new wr (.cells #[.int .i64 M, .int .i64 K, .int .i64 T] 41))
      have y0 : (wr.alloc (.cells #[.int .i64 M, .int .i64 K, .int .i64 T] 41)).cell? ⟨wr.heap.size, 0, none⟩ = some (.int .i64 M) := cell_of_row _ _ 0 _ _ _ HB.out
      have y1 : (wr.alloc (.cells #[.int .i64 M, .int .i64 K, .int .i64 T] 41)).cell? ⟨wr.heap.size, 1, none⟩ = some (.int .i64 K) := cell_of_row _ _ 1 _ _ _ HB.out
      have y2 : (wr.alloc (.cells #[.int .i64 M, .int .i64 K, .int .i64 T] 41)).cell? ⟨wr.heap.size, 2, none⟩ = some (.int .i64 T) := cell_of_row _ _ 2 _ _ _ HB.out
      have HUA := Lib.hid ((Up.refl wr).alloc (.cells #[.int .i64 M, .int .i64 K, .int .i64 T] 41))
      clear hlt hk
      go_wp2_with fail
      refine (HFS.out _).mono ?_
      rintro e w2 ⟨rfl, hu2⟩
      have HU2 := Lib.hid (HV.out.trans (HUA.out.trans hu2))
      have hb2 := (hu2.block wr.heap.size (by simp)).trans HB.out
      have z0 : w2.cell? ⟨wr.heap.size, 0, none⟩ = some (.int .i64 M) := cell_of_row _ _ 0 _ _ _ hb2
      clear hu2 hb2 y0 y1 y2 x0 x1 x2
      cases fs
      · have HNA := Lib.hid (HNO.out (by first | rfl | trivial))
        go_wp2_with fail
        go_ret2
        exact ⟨by rw [HCP.out, HNA.out]; rfl, HU2.out⟩
      · have hm0 : 0 ≤ M := by
          have := HFE.out
          unfold fineS at this
          rw [Bool.and_eq_true] at this
          exact of_decide_eq_true this.1
        have HA2 : Hid (allF l (k + 1) = true) := Lib.hid (by rw [HAS.out, HA.out]; rfl)
        go_wp2_with fail
        go_roundw
        case rel => exact ⟨k + 1, HLT.out, by go_num, by rw [HS.out]; rfl, HA2, HU2⟩
        case measure => simp [intOf]; omega
    · obtain rfl : k = l.length := by omega
      clear hlt hk
      by_cases hbig : 32768 < cntK l l.length
      · have hE : Hid (countP l = (0, 5)) := Lib.hid (by rw [HCP.out, if_pos HA.out, if_pos hbig])
        go_wp2_with fail
        go_ret2
        exact ⟨by rw [hE.out]; rfl, HV.out⟩
      · have hE : Hid (countP l = (cntK l l.length, 0)) := Lib.hid (by rw [HCP.out, if_pos HA.out, if_neg hbig])
        have hd : decide (32768 < cntK l l.length) = false := decide_eq_false hbig
        go_wp2_with fail
        go_ret2
        exact ⟨by rw [hE.out]; rfl, HV.out⟩

end Go.Proofs.Ytedkgamecdmjdaa
