/-
  plan.want: the register of a want.
-/
import Derived.Test.YtlclijnoablejaaRegD
set_option linter.unusedVariables false
set_option linter.unusedSimpArgs false
namespace Go.Proofs.Ytlclijnoablejaa
open Go.RowKit

/-- The register of a want, that lies nowhere yet. -/
def wantR (wr tp : Int) (n : Nat) (built : Bool) : Rg :=
  { kind := if built then (if wr = -1 then 7 else 6) else 1, base := 0, loc := 0, n := n, writer := wr, reader := -1, top := max 1 (min tp 255) }
theorem wantR_ok (wr tp : Int) (n : Nat) (built : Bool) (hn : 1 ≤ n ∧ n ≤ 8) (hw : -1 ≤ wr ∧ wr < n) : Wanted (wantR wr tp n built) := by
  refine ⟨⟨hn, ?_⟩, ?_, hw, rfl, ?_⟩
  · unfold wantR; dsimp only; cases built
    · exact Or.inl rfl
    · by_cases h : wr = -1
      · exact Or.inr (Or.inr (by rw [if_pos h]; rfl))
      · exact Or.inr (Or.inl (by rw [if_neg h]; rfl))
  · unfold wantR; dsimp only; omega
  · unfold wantR; dsimp only; cases built
    · intro h; simp at h
    · by_cases h : wr = -1
      · rw [if_pos h]; intro h; exact absurd h (by decide)
      · intro _; exact h
theorem heap_mid (w : World) (a b c : Obj) : (((w.alloc a).alloc b).alloc c).heap[w.heap.size + 1]? = some b := by
  have hs : (w.alloc a).heap.size = w.heap.size + 1 := by simp
  have hb := heap_alloc_new (w.alloc a) b
  rw [hs] at hb
  exact (heap_alloc_old _ _ (Array.getElem?_eq_some_iff.1 hb).1).trans hb
set_option maxHeartbeats 1000000 in
theorem want_any (wr tp : Int) (n : Nat) (built : Bool) (w : World) : Calls Try.prog 25 #[.agg #[.int .i64 wr, .int .i64 tp], .int .i64 n, .int .i64 (if built then 2 else 1)] w fun e w' => e = .returned (.agg (rcells (wantR wr tp n built))) ∧ Up w w' := by
  cases built
  · go_enter Try.func25, Try.ntmps25
    go_wp2_with fail
    all_goals
      refine bodyPost_ret (results_cell_row rfl _ _ (w.heap.size + 1) 29 _ _ _ rfl (heap_mid _ _ _ _) Try.underlying29 rfl (by kernel_rfl)) rfl ⟨?_, (((Up.refl w).alloc _).alloc _).alloc _⟩
      simp [rcells, wantR, if_true]
    all_goals omega
  · by_cases h : wr = -1
    · go_enter Try.func25, Try.ntmps25
      go_wp2_with fail
      all_goals
        refine bodyPost_ret (results_cell_row rfl _ _ (w.heap.size + 1) 29 _ _ _ rfl (heap_mid _ _ _ _) Try.underlying29 rfl (by kernel_rfl)) rfl ⟨?_, (((Up.refl w).alloc _).alloc _).alloc _⟩
        simp [rcells, wantR, h]
      all_goals omega
    · have h2 : (wr == -1) = false := by rw [beq_eq_false_iff_ne]; exact h
      go_enter Try.func25, Try.ntmps25
      go_wp2_with fail
      all_goals
        refine bodyPost_ret (results_cell_row rfl _ _ (w.heap.size + 1) 29 _ _ _ rfl (heap_mid _ _ _ _) Try.underlying29 rfl (by kernel_rfl)) rfl ⟨?_, (((Up.refl w).alloc _).alloc _).alloc _⟩
        simp [rcells, wantR, h]
      all_goals omega

end Go.Proofs.Ytlclijnoablejaa
