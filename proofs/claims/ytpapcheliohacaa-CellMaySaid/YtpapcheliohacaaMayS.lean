/-
  CellMay: what stays of what the law has in hand.
-/
import Derived.Test.YtpapcheliohacaaMayP
import Derived.Test.YtpapcheliohacaaHeld
import Derived.Test.YtpapcheliohacaaAct2
import Derived.Test.YtpapcheliohacaaRefN
set_option linter.unusedVariables false
set_option linter.unusedSimpArgs false
namespace Go.Proofs.Ytpapcheliohacaa
open Go.RowKit

/-- What the law has in hand: the cell, the row of what was written, the box of who reads; T: other blocks that the cell leaves alone. -/
structure MayW (w0 w : World) (h : Nat) (c : CS) (N : Nat) (wv : Value) (ws : List Int) (rb : Nat) (top : Int) (T : Nat → Prop) : Prop where
  held : Held w0 w h c N (fun k => (k = rb ∨ wv.ownBlock = some k) ∨ T k)
  row : w.ownsRow w0.heap.size 3 1 wv ws.length (icells ws)
  reads : ∀ j, j < 8 → ∃ b, w.cell? ⟨rb, j, none⟩ = some (.bool b)
  fz : ∀ j, w.frozen? ⟨rb, j, none⟩ = false
  ge : w0.heap.size ≤ rb
  apart : wv.ownBlock ≠ some rb
theorem MayW.up {w0 w w' : World} {h N rb : Nat} {c : CS} {wv : Value} {ws : List Int} {top : Int} {T : Nat → Prop} (H : MayW w0 w h c N wv ws rb top T) (u : Up w w') : MayW w0 w' h c N wv ws rb top (fun k => T k ∨ (w.heap.size ≤ k ∧ k < w'.heap.size)) := by
  have hrb : w'.heap[rb]? = w.heap[rb]? := u.block rb (by obtain ⟨b, hb⟩ := H.reads 0 (by decide); exact cell_lt hb)
  refine ⟨(H.held.grow u).less fun k hk => ?_, own_same H.row fun k hk => u.block k (H.row.lt k hk).2, fun j hj => ?_, fun j => (frozenE hrb).trans (H.fz j), H.ge, H.apart⟩
  · rcases hk with hk | hk | hk
    · exact .inl (.inl hk)
    · exact .inl (.inr hk)
    · exact .inr hk
  · obtain ⟨b, hb⟩ := H.reads j hj
    exact ⟨b, (cellE hrb).trans hb⟩
theorem MayW.less {w0 w : World} {h N rb : Nat} {c : CS} {wv : Value} {ws : List Int} {top : Int} {S T : Nat → Prop} (H : MayW w0 w h c N wv ws rb top S) (hT : ∀ k, T k → S k) : MayW w0 w h c N wv ws rb top T :=
  ⟨H.held.less fun k hk => hk.imp id (hT k), H.row, H.reads, H.fz, H.ge, H.apart⟩
/-- A call on the cell. -/
theorem MayW.step {w0 w w' : World} {h N N' rb : Nat} {c c' : CS} {wv : Value} {ws : List Int} {top : Int} {T : Nat → Prop} (H : MayW w0 w h c N wv ws rb top T) (hh : Held w0 w' h c' N' (fun k => (k = rb ∨ wv.ownBlock = some k) ∨ T k)) (hk : ∀ k, ((k = rb ∨ wv.ownBlock = some k) ∨ T k) → w'.heap[k]? = w.heap[k]?) : MayW w0 w' h c' N' wv ws rb top T :=
  ⟨hh, own_same H.row fun k e => hk k (.inl (.inr e)), fun j hj => (H.reads j hj).imp fun b hb => (cellE (hk rb (.inl (.inl rfl)))).trans hb, fun j => (frozenE (hk rb (.inl (.inl rfl)))).trans (H.fz j), H.ge, H.apart⟩
theorem begin_ok (c : CS) (t k v : Int) (h : (c.begin t k v).1 = 0) : (0 ≤ t ∧ t < 8) ∧ (k = 1 ∨ k = 2) := by
  unfold CS.begin at h
  split at h
  · simp at h
  · omega
/-- Who reads is noted. -/
theorem MayW.store {w0 w : World} {h N rb : Nat} {c : CS} {wv : Value} {ws : List Int} {top : Int} {T : Nat → Prop} (H : MayW w0 w h c N wv ws rb top T) (hT : ∀ k, T k → w0.heap.size ≤ k) (t : Nat) (b : Bool) : MayW w0 (w.setCell ⟨rb, t, none⟩ (.bool b)) h c N wv ws rb top T := by
  have hb : ∀ k, k ≠ rb → (w.setCell ⟨rb, t, none⟩ (.bool b)).heap[k]? = w.heap[k]? := fun k hne => Below.heap_setCell w ⟨rb, t, none⟩ _ k hne
  refine ⟨H.held.beside (fun k hk => ?_) (by simp) rfl rfl rfl (fun k _ hk => hb k (fun e => hk (.inl (.inl e)))), own_same H.row fun k e => hb k (fun e2 => H.apart (by rw [e, e2])), fun j hj => ?_, fun j => by simpa [go_sem] using H.fz j, H.ge, H.apart⟩
  · rcases hk with (rfl | hk) | hk
    · exact H.ge
    · exact own_ge H.row k hk
    · exact hT k hk
  · obtain ⟨x, hx⟩ := H.reads j hj
    by_cases e : j = t
    · subst e; exact ⟨b, World.cell?_setCell_same _ _ _ hx⟩
    · exact ⟨x, (World.cell?_setCell_other _ _ _ _ (by simp <;> omega)).trans hx⟩
/-- What was written is noted. -/
theorem MayW.append {w0 w w1 w' : World} {h N rb g1 cap : Nat} {c : CS} {wv : Value} {ws : List Int} {top x : Int} {T : Nat → Prop} (H : MayW w0 w h c N wv ws rb top T) (u : Up w w1) (hg : w1.grownBy w' wv.ownBlock) (hor : wv.ownBlock = some g1 ∨ w1.heap.size ≤ g1) (hlt : g1 < w'.heap.size)
    (hown : w'.ownsRow w0.heap.size 3 1 (.slice (some ⟨g1, 0, none⟩) (ws.length + 1) cap) (ws.length + 1) (icells ws ++ [.int .i64 x])) : MayW w0 w' h c N (.slice (some ⟨g1, 0, none⟩) (ws.length + 1) cap) (ws ++ [x]) rb top T := by
  obtain ⟨h1, h2, h3, ms, h4, h5⟩ := H.held
  have hs : w.heap.size ≤ w'.heap.size := Nat.le_trans u.size hg.size
  have hk : ∀ k, k < w.heap.size → wv.ownBlock ≠ some k → w'.heap[k]? = w.heap[k]? := fun k hk hne => (hg.block k (Nat.lt_of_lt_of_le hk u.size) (fun e => hne e.symm)).trans (u.block k hk)
  have hrb : rb < w.heap.size := (h5 rb (.inl (.inl rfl))).1
  have hrk : w'.heap[rb]? = w.heap[rb]? := hk rb hrb H.apart
  have hlen : (ws ++ [x]).length = ws.length + 1 := by simp
  refine ⟨⟨h1, ⟨(hg.os.trans u.os).trans h2.os, (hg.tape.trans u.tape).trans h2.tape, (hg.output.trans u.output).trans h2.output, Nat.le_trans h2.size hs, fun k hlt' => (hk k (Nat.lt_of_lt_of_le hlt' h2.size) (fun e => by have := own_ge H.row k e; omega)).trans (h2.block k hlt')⟩, h3, ms, h4.keep hs (hk h h4.lt (fun e => (h5 h (.inl (.inr e))).2.1 rfl)) (fun i hi' k e => hk k ((h4.own i hi').ge k e).2 (fun e2 => (h5 k (.inl (.inr e2))).2.2 i hi' e)), fun k hS => ?_⟩, ?_, fun j hj => (H.reads j hj).imp fun b hb => (cellE hrk).trans hb, fun j => (frozenE hrk).trans (H.fz j), H.ge, ?_⟩
  · rcases hS with (rfl | hS) | hS
    · obtain ⟨a, b, d⟩ := h5 k (.inl (.inl rfl))
      exact ⟨by omega, b, d⟩
    · simp only [Value.ownBlock, Option.some.injEq] at hS
      subst hS
      rcases hor with e | e
      · obtain ⟨a, b, d⟩ := h5 g1 (.inl (.inr e))
        exact ⟨by omega, b, d⟩
      · have hu := u.size
        exact ⟨hlt, by have := h4.lt; omega, fun i hi' e2 => by have := ((h4.own i hi').ge g1 e2).2; omega⟩
    · obtain ⟨a, b, d⟩ := h5 k (.inr hS)
      exact ⟨by omega, b, d⟩
  · have e : icells (ws ++ [x]) = icells ws ++ [.int .i64 x] := by unfold icells; simp
    rw [hlen, e]
    exact hown
  · simp only [Value.ownBlock]
    intro e
    simp only [Option.some.injEq] at e
    subst e
    rcases hor with e2 | e2
    · exact H.apart e2
    · have := u.size; omega

end Go.Proofs.Ytpapcheliohacaa
