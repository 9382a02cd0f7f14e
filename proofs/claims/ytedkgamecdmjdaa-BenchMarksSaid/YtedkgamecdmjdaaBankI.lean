/-
  The bank's own block; Busy, has.
-/
import Derived.Test.YtedkgamecdmjdaaBankP
import Derived.Test.YtedkgamecdmjdaaStill
set_option linter.unusedVariables false
set_option linter.unusedSimpArgs false
namespace Go.Proofs.Ytedkgamecdmjdaa
open Go.RowKit

/-- The bank's own block: its runs, how many, the map's block, who is at which cell. -/
structure BankB (W : World) (b : Nat) (R : Value) (many : Int) (m : Nat) (by' : Nat → Bool × Int) : Prop where
  k0 : W.cell? ⟨b, 0, none⟩ = some R
  k1 : W.cell? ⟨b, 1, none⟩ = some (.int .i64 many)
  k2 : W.cell? ⟨b, 2, none⟩ = some (.map (some m))
  on : ∀ t, t < 8 → W.cell? ⟨b, 3 + t * 2, none⟩ = some (.bool (by' t).1)
  at' : ∀ t, t < 8 → W.cell? ⟨b, 3 + t * 2 + 1, none⟩ = some (.int .i64 (by' t).2)
  fz : ∀ j, W.frozen? ⟨b, j, none⟩ = false
theorem BankB.lt {W : World} {b : Nat} {R : Value} {many : Int} {m : Nat} {by' : Nat → Bool × Int} (h : BankB W b R many m by') : b < W.heap.size := cell_lt h.k1
theorem BankB.same {W W' : World} {b : Nat} {R : Value} {many : Int} {m : Nat} {by' : Nat → Bool × Int} (h : BankB W b R many m by') (e : W'.heap[b]? = W.heap[b]?) : BankB W' b R many m by' :=
  ⟨(World.cell?_of_block (a := ⟨b, 0, none⟩) e).trans h.k0, (World.cell?_of_block (a := ⟨b, 1, none⟩) e).trans h.k1, (World.cell?_of_block (a := ⟨b, 2, none⟩) e).trans h.k2,
    fun t ht => (World.cell?_of_block (a := ⟨b, 3 + t * 2, none⟩) e).trans (h.on t ht), fun t ht => (World.cell?_of_block (a := ⟨b, 3 + t * 2 + 1, none⟩) e).trans (h.at' t ht), fun j => (World.frozen?_of_block (a := ⟨b, j, none⟩) e).trans (h.fz j)⟩
theorem BankB.up {W W' : World} {b : Nat} {R : Value} {many : Int} {m : Nat} {by' : Nat → Bool × Int} (h : BankB W b R many m by') (u : Up W W') : BankB W' b R many m by' := h.same (u.block b h.lt)

set_option maxRecDepth 10000 in
set_option maxHeartbeats 1000000 in
theorem bbusy_any (b : Nat) (R : Value) (many : Int) (m : Nat) (s : BS) (t : Int) (w : World) (ht0 : -9223372036854775808 ≤ t) (ht1 : t ≤ 9223372036854775807) (H : BankB w b R many m s.by') :
    Calls Try.prog 43 #[.pointer (some ⟨b, 0, none⟩), .int .i64 t] w fun e w' => e = .returned (.tuple #[.int .i64 (s.busy t).1, .bool (s.busy t).2]) ∧ Up w w' := by
  by_cases hin : t < 0 ∨ 8 ≤ t
  · have he : s.busy t = (0, false) := by unfold BS.busy; rw [if_pos hin]
    rw [he]
    by_cases h0 : t < 0
    · clear H hin
      go_enter Try.func43, Try.ntmps43
      go_wp2_with fail
      go_ret2
      exact ⟨rfl, Up.refl _⟩
    · have h8 : 8 ≤ t := by omega
      have h0b : decide (t < 0) = false := decide_eq_false h0
      clear H hin
      go_enter Try.func43, Try.ntmps43
      go_wp2_with fail
      go_ret2
      exact ⟨rfl, Up.refl _⟩
  · obtain ⟨i, rfl⟩ : ∃ i : Nat, t = (i : Int) := ⟨t.toNat, by omega⟩
    have hi8 : i < 8 := by omega
    have he : s.busy (i : Int) = ((s.by' i).2, (s.by' i).1) := by unfold BS.busy; rw [if_neg hin]; rfl
    rw [he]
    have x0 := upCell (H.on i hi8)
    have x1 := upCell (H.at' i hi8)
    have h8 : (i : Int) < 8 := by omega
    have h0 : (0 : Int) ≤ (i : Int) := by omega
    generalize s.by' i = p at *
    obtain ⟨po, pa⟩ := p
    dsimp only at x0 x1
    clear H hin he
    go_enter Try.func43, Try.ntmps43
    go_wp2_with fail
    refine wp_region_up (by kernel_rfl) (by kernel_rfl) (Up.refl _) ?_
    repeat (go_big_quiet_step ((fail)))
    refine wpQuiet_nil ?_
    rintro wz ⟨⟨wy, huy⟩, hwy⟩
    have huz : Up w wz := by rw [hwy]; exact huy
    clear hwy huy
    go_wp2_with fail
    go_ret2
    exact ⟨rfl, huz⟩

end Go.Proofs.Ytedkgamecdmjdaa
