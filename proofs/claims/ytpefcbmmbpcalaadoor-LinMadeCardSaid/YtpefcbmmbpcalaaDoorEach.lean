/-
  mask.Each: its contract as an iterator.
-/
import Derived.Test.YtpefcbmmbpcalaaDoorMk
import Derived.RangeFuncNested
import Derived.RangeFuncBound
import Derived.RangeFuncCalls
import Derived.RangeFuncLeaves
import Derived.Shelf.Abstract
import Derived.Shelf.RegionOpen
import Derived.OwnWalkIn
import Derived.TacticsInMore
import Derived.LoopNIn
import Derived.LoopIn
set_option linter.unusedVariables false
set_option linter.unusedSimpArgs false
namespace Go.Proofs.YtpefcbmmbpcalaaDoor
open Go.RowKit Go.Shelf
attribute [local go_sem] Oper.semAt_some

/-- A place of a set. -/
abbrev Bit (s : Nat) := { i : Nat // i < 64 ∧ hasB s i = true }
def encB {s : Nat} (x : Bit s) : Array Value := #[.int .i64 x.1]
def vals {s : Nat} (l : List (Bit s)) : List Nat := l.map (·.1)
theorem vals_snoc {s : Nat} (l : List (Bit s)) (x : Bit s) : vals (l ++ [x]) = vals l ++ [x.1] := by unfold vals; rw [List.map_append]; rfl
theorem vals_len {s : Nat} (l : List (Bit s)) : (vals l).length = l.length := by unfold vals; simp

set_option maxHeartbeats 400000 in
theorem each_any (s : Nat) (w : World) : Calls Tryd.prog 28 #[.int .u64 s] w fun e w' => e = .returned (.func (.func 38) #[] #[.pointer (some ⟨w.heap.size, 0, none⟩)]) ∧ w.alloc (.cells #[.int .u64 s] 23) = w' := by
  have HMF := Lib.hid (show ∀ (fn : Fn) (first cap : Array Value) (w : World), (Instr.makeFunc fn first cap).run Tryd.prog w = .ok (.func fn first cap) w from fun _ _ _ _ => rfl)
  go_enter Tryd.func28, Tryd.ntmps28
  go_wp2_with fail
  go_ret
  exact ⟨rfl, rfl⟩

set_option maxRecDepth 100000 in
set_option maxHeartbeats 1000000 in
theorem each1_in (n : Nat) (hn : 1 ≤ n) (l Bs n₀ s : Nat) (hs : s < top64) (hn0 : 0 < n₀) (J Jx : List (Bit s) → World → Prop)
    (hY : ∀ pre x W, J pre W → pre.length < 64 → YieldAt Fence.wide (n - 1) Tryd.prog l (encB x) W fun e W' =>
      (e = .returned (.bool true) ∧ J (pre ++ [x]) W' ∧ Below n₀ W W') ∨ (e = .returned (.bool false) ∧ Jx (pre ++ [x]) W'))
    (W : World) (hBs : W.cell? ⟨Bs, 0, none⟩ = some (.int .u64 s)) (hT : TabT W) (h0 : J [] W) :
    CallsIn Fence.wide n Tryd.prog 38 #[.func (.yield l) #[] #[], .pointer (some ⟨Bs, 0, none⟩)] W fun e W' => (∃ v, e = .returned v) ∧
      ((∃ xs, vals xs = bitsL s ∧ J xs W') ∨ (∃ pre, vals pre <+: bitsL s ∧ Jx pre W')) := by
  have HS := Lib.hid hs
  clear hs
  refine callsIn_of_wp Tryd.func38 rfl trivial ?_ rfl
  simp only [Tryd.ntmps38, List.size_toArray, List.length_cons, List.length_nil, Nat.reduceAdd, Nat.reduceSub, Array.replicate_succ, Array.replicate_zero, List.push_toArray, List.append_toArray, List.nil_append, List.cons_append]
  gi_wp2
  gi_loopw [3] (fun x wr => ∃ (pre : List (Bit s)) (y : Nat), x = .int .u64 y ∧ Hid (y < top64) ∧ Hid (∀ i, hasB y i = true → hasB s i = true) ∧ Hid (vals pre ++ bitsL y = bitsL s) ∧ J pre wr ∧ Hid (Below n₀ W wr))
    (fun x _ => (intOf x).toNat)
  case atStart => exact ⟨[], s, rfl, HS, Lib.hid (fun _ h => h), Lib.hid rfl, h0, Lib.hid (Below.refl _ _)⟩
  case round =>
    obtain ⟨pre, y, rfl, HY, HSub, HSum, hJ, HB⟩ := hrel
    by_cases hy0 : y = 0
    · subst hy0
      rw [show (((0 : Nat) : Int)) = 0 from rfl]
      gi_wp2
      go_end0
      refine ⟨⟨_, rfl⟩, .inl ⟨pre, ?_, hJ⟩⟩
      have := HSum.out
      rw [bitsL_zero, List.append_nil] at this
      exact this
    · have hyb : ((y : Int) != 0) = true := by rw [bne_iff_ne]; omega
      have hyi : (0 : Int) < y := by omega
      have hlt := HY.out
      rw [top64_is] at hlt
      have hand : bits .and .u64 (y : Int) (IntKind.u64.wrap ((y : Int) - 1)) = ((dropN y : Nat) : Int) := by
        have e1 : IntKind.u64.wrap ((y : Int) - 1) = ((y - 1 : Nat) : Int) := by rw [IntKind.wrap_u64]; omega
        rw [e1, bits_and_u64_nat _ _ hlt (by omega)]; rfl
      have HTZ := Lib.hid (tz_any y hy0 HY.out wr (hT.below hn0 HB.out))
      have hst := bitsL_step hy0 HY.out
      obtain ⟨x, hx⟩ : ∃ x : Bit s, x.1 = Lib.ctz 64 y := ⟨⟨Lib.ctz 64 y, low_lt hy0 HY.out, HSub.out _ (low_in hy0 HY.out)⟩, rfl⟩
      rw [← hx] at HTZ hst
      have HSum2 : Hid (vals (pre ++ [x]) ++ bitsL (dropN y) = bitsL s) := Lib.hid (by
        rw [vals_snoc, List.append_assoc, List.singleton_append, ← hst]; exact HSum.out)
      have hlen : pre.length < 64 := by
        have h1 := congrArg List.length HSum.out
        rw [List.length_append, hst, vals_len, List.length_cons] at h1
        have := bitsL_len s
        omega
      have HD : Hid (dropN y < y ∧ dropN y < top64) := Lib.hid ⟨dropN_lt hy0, Nat.lt_trans (dropN_lt hy0) HY.out⟩
      have HSub2 : Hid (∀ i, hasB (dropN y) i = true → hasB s i = true) := Lib.hid (fun i h => HSub.out i (dropN_sub hy0 HY.out h))
      obtain ⟨fn, tmps, assign, body, hyy, hR⟩ := hY pre x wr hJ hlen
      dsimp only [encB] at hyy
      clear hst hlt hx
      gi_wp2_with (refine ⟨trivial, ?_⟩; gi_at_call 39; refine (callsIn_wide.2 HTZ.out).mono ?_; rintro e w' ⟨rfl, rfl⟩)
      refine hR.mono ?_
      rintro e W3 (⟨rfl, hJ3, hk3⟩ | ⟨rfl, hJx3⟩)
      · gi_wp2
        go_roundw
        case rel => exact ⟨_, dropN y, rfl, Lib.hid HD.out.2, HSub2, HSum2, hJ3, Lib.hid (HB.out.trans hk3)⟩
        case measure => simp [intOf]; exact HD.out.1
      · gi_wp2
        refine bodyPost_ret (results_none rfl _ _ _) rfl ?_
        refine ⟨⟨_, rfl⟩, .inr ⟨_, ?_, hJx3⟩⟩
        exact ⟨_, HSum2.out⟩

theorem each_stops (n : Nat) (hn : 1 ≤ n) (Bs n₀ s : Nat) (w : World) (hs : s < top64) (hn0 : 0 < n₀) (hBl : Bs < w.heap.size) (hBs : w.cell? ⟨Bs, 0, none⟩ = some (.int .u64 s)) (hT : TabT w) :
    SeqStopsK Fence.wide n Tryd.prog 38 #[.pointer (some ⟨Bs, 0, none⟩)] (encB (s := s)) (Below n₀) (fun xs => vals xs = bitsL s) (fun pre => vals pre <+: bitsL s) 64 w := fun l J Jx W hW _ _ hY h0 =>
  each1_in n hn l Bs n₀ s hs hn0 J Jx hY W ((hW.cell (p := ⟨Bs, 0, none⟩) hBl).trans hBs) (hT.up hW) h0

end Go.Proofs.YtpefcbmmbpcalaaDoor
