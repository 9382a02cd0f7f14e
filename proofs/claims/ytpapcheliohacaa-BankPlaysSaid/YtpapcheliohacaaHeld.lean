/-
  Package cell: a cell beside other blocks (S) that its calls leave alone.
-/
import Derived.Test.YtpapcheliohacaaLives
set_option linter.unusedVariables false
set_option linter.unusedSimpArgs false
namespace Go.Proofs.Ytpapcheliohacaa
open Go.RowKit

theorem CellIs.keep {w w' : World} {h B : Nat} {c : CS} {ms : Nat → Value} (H : CellIs w h B c ms) (hs : w.heap.size ≤ w'.heap.size) (hh : w'.heap[h]? = w.heap[h]?) (hm : ∀ i, i < 8 → ∀ k, (ms i).ownBlock = some k → w'.heap[k]? = w.heap[k]?) : CellIs w' h B c ms := by
  have cc : ∀ j, w'.cell? ⟨h, j, none⟩ = w.cell? ⟨h, j, none⟩ := fun j => cellE hh
  refine ⟨Nat.le_trans H.sz hs, (cc _).trans H.k0, (cc _).trans H.k1, (cc _).trans H.k2, fun i hi => ?_, fun j => (frozenE hh).trans (H.fz j), fun i hi => (H.own i hi).same hs fun k hkk => hm i hi k hkk, H.apart, H.two⟩
  obtain ⟨y0, y1, y2, y3, y4⟩ := H.acc i hi
  exact ⟨(cc _).trans y0, (cc _).trans y1, (cc _).trans y2, (cc _).trans y3, (cc _).trans y4⟩

/-- A cell that was made behind w0, beside the blocks of S. -/
def Held (w0 w : World) (h : Nat) (c : CS) (N : Nat) (S : Nat → Prop) : Prop :=
  w0.heap.size ≤ h ∧ Up w0 w ∧ CGood c N ∧ ∃ ms, CellIs w h h c ms ∧ ∀ k, S k → k < w.heap.size ∧ k ≠ h ∧ ∀ i, i < 8 → (ms i).ownBlock ≠ some k
theorem Lives.held {w0 w : World} {h : Nat} {c : CS} {N : Nat} (L : Lives w0 w h c N) : Held w0 w h c N (fun _ => False) := by
  obtain ⟨h1, h2, h3, ms, h4⟩ := L
  exact ⟨h1, h2, h3, ms, h4, fun k hk => hk.elim⟩
theorem Held.lives {w0 w : World} {h : Nat} {c : CS} {N : Nat} {S : Nat → Prop} (L : Held w0 w h c N S) : Lives w0 w h c N := by
  obtain ⟨h1, h2, h3, ms, h4, _⟩ := L
  exact ⟨h1, h2, h3, ms, h4⟩
theorem Held.less {w0 w : World} {h : Nat} {c : CS} {N : Nat} {S T : Nat → Prop} (L : Held w0 w h c N S) (hT : ∀ k, T k → S k) : Held w0 w h c N T := by
  obtain ⟨h1, h2, h3, ms, h4, h5⟩ := L
  exact ⟨h1, h2, h3, ms, h4, fun k hk => h5 k (hT k hk)⟩
/-- New blocks are beside it. -/
theorem Held.grow {w0 w w' : World} {h : Nat} {c : CS} {N : Nat} {S : Nat → Prop} (L : Held w0 w h c N S) (u : Up w w') : Held w0 w' h c N (fun k => S k ∨ (w.heap.size ≤ k ∧ k < w'.heap.size)) := by
  obtain ⟨h1, h2, h3, ms, h4, h5⟩ := L
  refine ⟨h1, h2.trans u, h3, ms, h4.up u, fun k hk => ?_⟩
  rcases hk with hk | ⟨a, b⟩
  · obtain ⟨x, y, z⟩ := h5 k hk
    exact ⟨Nat.lt_of_lt_of_le x u.size, y, z⟩
  · exact ⟨b, by have := h4.lt; omega, fun i hi e => by have := ((h4.own i hi).ge k e).2; omega⟩
/-- A store beside it. -/
theorem Held.beside {w0 w w' : World} {h : Nat} {c : CS} {N : Nat} {S : Nat → Prop} (L : Held w0 w h c N S) (h0 : ∀ k, S k → w0.heap.size ≤ k) (hs : w.heap.size ≤ w'.heap.size) (ho : w'.os = w.os) (ht : w'.tape = w.tape) (hu : w'.output = w.output)
    (hk : ∀ k, k < w.heap.size → ¬ S k → w'.heap[k]? = w.heap[k]?) : Held w0 w' h c N S := by
  obtain ⟨h1, h2, h3, ms, h4, h5⟩ := L
  refine ⟨h1, ⟨ho.trans h2.os, ht.trans h2.tape, hu.trans h2.output, Nat.le_trans h2.size hs, fun k hlt => (hk k (Nat.lt_of_lt_of_le hlt h2.size) (fun hS => by have := h0 k hS; omega)).trans (h2.block k hlt)⟩, h3, ms, h4.keep hs (hk h h4.lt (fun hS => (h5 h hS).2.1 rfl)) (fun i hi k e => hk k ((h4.own i hi).ge k e).2 (fun hS => (h5 k hS).2.2 i hi e)), fun k hS => ?_⟩
  obtain ⟨x, y, z⟩ := h5 k hS
  exact ⟨Nat.lt_of_lt_of_le x hs, y, z⟩
theorem held_step {w0 w w' : World} {h : Nat} {c c' : CS} {N' : Nat} {S : Nat → Prop} {ms ms' : Nat → Value} (h1 : w0.heap.size ≤ h) (h2 : Up w0 w) (h4 : CellIs w h h c ms) (h5 : ∀ k, S k → k < w.heap.size ∧ k ≠ h ∧ ∀ i, i < 8 → (ms i).ownBlock ≠ some k) (g : CGood c' N') (q1 : CellIs w' h h c' ms') (q2 : CFrame w w' h ms ms') :
    Held w0 w' h c' N' S ∧ ∀ k, S k → w'.heap[k]? = w.heap[k]? := by
  refine ⟨⟨h1, q2.toUp h1 h2 h4, g, ms', q1, fun k hS => ?_⟩, fun k hS => ?_⟩
  · obtain ⟨x, y, z⟩ := h5 k hS
    refine ⟨Nat.lt_of_lt_of_le x q2.size, y, fun i hi e => ?_⟩
    rcases q2.new i hi k e with ⟨j, hj, e2⟩ | hge
    · exact z j hj e2
    · omega
  · obtain ⟨x, y, z⟩ := h5 k hS
    exact q2.block k x y z
theorem begin_held (h N : Nat) (c : CS) (t k cl v : Int) (w0 w : World) (S : Nat → Prop) (L : Held w0 w h c N S) (hN : N ≤ 900) :
    Calls Try.prog 12 #[.pointer (some ⟨h, 0, none⟩), .int .i64 t, .agg #[.int .i64 k, .int .i64 cl, .int .i64 v]] w fun e w' => e = .returned (.int .i64 (c.begin t k v).1) ∧ Held w0 w' h (c.begin t k v).2 (N + 9) S ∧ ∀ k, S k → w'.heap[k]? = w.heap[k]? := by
  obtain ⟨h1, h2, h3, ms, h4, h5⟩ := L
  exact (begin_any h h N c ms t k cl v w h4 h3 hN).mono fun e w' ⟨he, ms', q1, q2⟩ => ⟨he, held_step h1 h2 h4 h5 (h3.begin _ _ _) q1 q2⟩
theorem end_held (h N : Nat) (c : CS) (t d : Int) (w0 w : World) (S : Nat → Prop) (L : Held w0 w h c N S) (hN : N ≤ 1000) :
    Calls Try.prog 10 #[.pointer (some ⟨h, 0, none⟩), .int .i64 t, .int .i64 d] w fun e w' => e = .returned (.tuple #[.int .i64 (c.endA t d).1, .int .i64 (c.endA t d).2.1]) ∧ Held w0 w' h (c.endA t d).2.2 N S ∧ ∀ k, S k → w'.heap[k]? = w.heap[k]? := by
  obtain ⟨h1, h2, h3, ms, h4, h5⟩ := L
  exact (end_any h h N c ms t d w h4 h3 hN).mono fun e w' ⟨he, ms', q1, q2⟩ => ⟨he, held_step h1 h2 h4 h5 (h3.endA _ _) q1 q2⟩

end Go.Proofs.Ytpapcheliohacaa
