/-
  Package cell: what a call keeps of a cell's good state; a nil cell.
-/
import Derived.Test.YtedkgamecdmjdaaNew
set_option linter.unusedVariables false
set_option linter.unusedSimpArgs false
namespace Go.Proofs.Ytedkgamecdmjdaa
open Go.RowKit

theorem CGood.put {c : CS} {N : Nat} (g : CGood c N) (t : Nat) (a : Acc8) (h1 : a.on = true → a.wr = false → c.kind = 2 → 0 < a.may.length) (h2 : a.may.length ≤ N) : CGood (c.put t a) N := by
  refine ⟨fun i hi => ?_, fun i hi => ?_⟩
  · unfold CS.put
    by_cases e : i = t
    · simp only [if_pos e]; exact h1
    · simp only [if_neg e]; exact g.pos i hi
  · unfold CS.put
    by_cases e : i = t
    · simp only [if_pos e]; exact h2
    · simp only [if_neg e]; exact g.few i hi
theorem CGood.more {c : CS} {N M : Nat} (g : CGood c N) (h : N ≤ M) : CGood c M := ⟨g.pos, fun i hi => Nat.le_trans (g.few i hi) h⟩
theorem CGood.wr {c : CS} {N : Nat} (g : CGood c N) (v : Int) (n : Nat) : CGood (wrN c v n) (N + 1) := by
  have hk := (wrN_kind c v n).1
  refine ⟨fun i hi h1 h2 h3 => ?_, fun i hi => ?_⟩
  · rw [hk] at h3
    rw [wrN_bys] at h1 h2 ⊢
    split at h1
    · rename_i hc
      rw [if_pos hc] at h2 ⊢
      unfold ovl
      simp [if_pos h3]
    · rename_i hc
      rw [if_neg hc] at h2 ⊢
      exact g.pos i hi h1 h2 h3
  · have := g.few i hi
    rw [wrN_bys]
    split
    · unfold ovl
      dsimp only
      split
      · simp; omega
      · omega
    · omega
theorem CGood.begin {c : CS} {N : Nat} (g : CGood c N) (t k v : Int) : CGood (c.begin t k v).2 (N + 9) := by
  unfold CS.begin
  split
  · exact g.more (by omega)
  split
  · exact g.more (by omega)
  split
  · refine (g.more (by omega)).put _ _ (fun _ _ h => readN_some c h 8) ?_
    have := readN_few c 8
    omega
  · exact ((g.wr _ 8).more (by omega)).put _ _ (fun _ h => absurd h (by simp)) (by simp)
theorem CGood.endA {c : CS} {N : Nat} (g : CGood c N) (t d : Int) : CGood (c.endA t d).2.2 N := by
  unfold CS.endA
  have hp : CGood (c.put t.toNat acc0) N := g.put _ _ (fun h => absurd h (by simp [acc0])) (by simp [acc0])
  split
  · exact g
  split
  · exact g
  split
  · exact ⟨hp.pos, hp.few⟩
  · exact hp
theorem CGood.new (kind top : Int) : CGood (CS.new kind top) 0 := ⟨fun i hi h => absurd h (by simp [CS.new, acc0]), fun i hi => by simp [CS.new, acc0]⟩
theorem begin_nil (t k cl v : Int) (w : World) : Calls Try.prog 45 #[.pointer none, .int .i64 t, .agg #[.int .i64 k, .int .i64 cl, .int .i64 v]] w fun e w' => e = .returned (.int .i64 2) ∧ Up w w' := by
  go_enter Try.func45, Try.ntmps45
  go_wp2_with fail
  go_ret
  exact ⟨rfl, (Up.refl w).alloc _⟩

end Go.Proofs.Ytedkgamecdmjdaa
