/-
  Package cell: an access ends.
-/
import Derived.Test.YtedkgamecdmjdaaRead
set_option linter.unusedVariables false
set_option linter.unusedSimpArgs false
namespace Go.Proofs.Ytedkgamecdmjdaa
open Go.RowKit

/-- The world behind a store of five cells at a place. -/
def st5 (w : World) (b o : Nat) (v0 v1 v2 v3 v4 : Value) : World := ((((w.setCell ⟨b, o, none⟩ v0).setCell ⟨b, o + 1, none⟩ v1).setCell ⟨b, o + 2, none⟩ v2).setCell ⟨b, o + 3, none⟩ v3).setCell ⟨b, o + 4, none⟩ v4
theorem st5_other (w : World) (b o k : Nat) (v0 v1 v2 v3 v4 : Value) (h : k ≠ b) : (st5 w b o v0 v1 v2 v3 v4).heap[k]? = w.heap[k]? := by
  unfold st5
  rw [Below.heap_setCell _ _ _ _ h, Below.heap_setCell _ _ _ _ h, Below.heap_setCell _ _ _ _ h, Below.heap_setCell _ _ _ _ h, Below.heap_setCell _ _ _ _ h]
theorem st5_size (w : World) (b o : Nat) (v0 v1 v2 v3 v4 : Value) : (st5 w b o v0 v1 v2 v3 v4).heap.size = w.heap.size := by simp [st5]
theorem st5_cell (w : World) (b o j : Nat) (v0 v1 v2 v3 v4 : Value) (h : j < o ∨ o + 4 < j) : (st5 w b o v0 v1 v2 v3 v4).cell? ⟨b, j, none⟩ = w.cell? ⟨b, j, none⟩ := by
  unfold st5
  rw [World.cell?_setCell_other _ _ _ _ (by simp <;> omega), World.cell?_setCell_other _ _ _ _ (by simp <;> omega), World.cell?_setCell_other _ _ _ _ (by simp <;> omega), World.cell?_setCell_other _ _ _ _ (by simp <;> omega), World.cell?_setCell_other _ _ _ _ (by simp <;> omega)]
theorem st5_fz (w : World) (b o j : Nat) (v0 v1 v2 v3 v4 : Value) : (st5 w b o v0 v1 v2 v3 v4).frozen? ⟨b, j, none⟩ = w.frozen? ⟨b, j, none⟩ := by unfold st5; simp [go_sem]
theorem setCell_keeps {w : World} {b j : Nat} {v x : Value} {i : Nat} {y : Value} (h : w.cell? ⟨b, j, none⟩ = some x) : ∃ z, (w.setCell ⟨b, i, none⟩ y).cell? ⟨b, j, none⟩ = some z := by
  by_cases e : j = i
  · subst e; exact ⟨y, World.cell?_setCell_same _ _ _ h⟩
  · exact ⟨x, (World.cell?_setCell_other _ _ _ _ (by simp <;> omega)).trans h⟩
theorem st5_at {w : World} {b o : Nat} {x0 x1 x2 x3 x4 : Value} (v0 v1 v2 v3 v4 : Value) (h0 : w.cell? ⟨b, o, none⟩ = some x0) (h1 : w.cell? ⟨b, o + 1, none⟩ = some x1) (h2 : w.cell? ⟨b, o + 2, none⟩ = some x2) (h3 : w.cell? ⟨b, o + 3, none⟩ = some x3) (h4 : w.cell? ⟨b, o + 4, none⟩ = some x4) :
    (st5 w b o v0 v1 v2 v3 v4).cell? ⟨b, o, none⟩ = some v0 ∧ (st5 w b o v0 v1 v2 v3 v4).cell? ⟨b, o + 1, none⟩ = some v1 ∧ (st5 w b o v0 v1 v2 v3 v4).cell? ⟨b, o + 2, none⟩ = some v2 ∧ (st5 w b o v0 v1 v2 v3 v4).cell? ⟨b, o + 3, none⟩ = some v3 ∧ (st5 w b o v0 v1 v2 v3 v4).cell? ⟨b, o + 4, none⟩ = some v4 := by
  have oth : ∀ (W : World) (i j : Nat) (y : Value), j ≠ i → (W.setCell ⟨b, i, none⟩ y).cell? ⟨b, j, none⟩ = W.cell? ⟨b, j, none⟩ := fun W i j y hne => World.cell?_setCell_other _ _ _ _ (by simp <;> omega)
  unfold st5
  refine ⟨?_, ?_, ?_, ?_, ?_⟩
  · rw [oth _ _ _ _ (by omega), oth _ _ _ _ (by omega), oth _ _ _ _ (by omega), oth _ _ _ _ (by omega)]
    exact World.cell?_setCell_same _ _ _ h0
  · rw [oth _ _ _ _ (by omega), oth _ _ _ _ (by omega), oth _ _ _ _ (by omega)]
    exact World.cell?_setCell_same _ _ _ ((oth _ _ _ _ (by omega)).trans h1)
  · rw [oth _ _ _ _ (by omega), oth _ _ _ _ (by omega)]
    exact World.cell?_setCell_same _ _ _ ((oth _ _ _ _ (by omega)).trans ((oth _ _ _ _ (by omega)).trans h2))
  · rw [oth _ _ _ _ (by omega)]
    exact World.cell?_setCell_same _ _ _ ((oth _ _ _ _ (by omega)).trans ((oth _ _ _ _ (by omega)).trans ((oth _ _ _ _ (by omega)).trans h3)))
  · exact World.cell?_setCell_same _ _ _ ((oth _ _ _ _ (by omega)).trans ((oth _ _ _ _ (by omega)).trans ((oth _ _ _ _ (by omega)).trans ((oth _ _ _ _ (by omega)).trans h4))))

def setM (ms : Nat → Value) (t : Nat) (m : Value) : Nat → Value := fun i => if i = t then m else ms i
theorem CellIs.store {w : World} {h B : Nat} {c : CS} {ms : Nat → Value} (H : CellIs w h B c ms) (t : Nat) (ht : t < 8) (a : Acc8) (m : Value) (hm : MayIs w B m a.may) (hap : m.ownBlock ≠ some h)
    (htwo : ∀ j, j < 8 → j ≠ t → ∀ k, m.ownBlock = some k → (ms j).ownBlock ≠ some k) :
    CellIs (st5 w h (3 + t * 5) (.bool a.on) (.bool a.wr) (.int .i64 a.val) (.bool a.ov) m) h B (c.put t a) (setM ms t m) := by
  obtain ⟨x0, x1, x2, x3, x4⟩ := H.acc t ht
  have hk : ∀ k, k ≠ h → (st5 w h (3 + t * 5) (.bool a.on) (.bool a.wr) (.int .i64 a.val) (.bool a.ov) m).heap[k]? = w.heap[k]? := fun k hne => st5_other _ _ _ _ _ _ _ _ _ hne
  refine ⟨by rw [st5_size]; exact H.sz, (st5_cell _ _ _ _ _ _ _ _ _ (by omega)).trans H.k0, (st5_cell _ _ _ _ _ _ _ _ _ (by omega)).trans H.k1, (st5_cell _ _ _ _ _ _ _ _ _ (by omega)).trans H.k2, fun i hi => ?_, fun j => (st5_fz _ _ _ _ _ _ _ _ _).trans (H.fz j), fun i hi => ?_, fun i hi => ?_, fun i j hi hj hij k hik => ?_⟩
  · by_cases e : i = t
    · subst e
      have := st5_at (.bool a.on) (.bool a.wr) (.int .i64 a.val) (.bool a.ov) m x0 x1 x2 x3 x4
      simp only [CS.put, setM, if_pos]
      exact this
    · obtain ⟨y0, y1, y2, y3, y4⟩ := H.acc i hi
      simp only [CS.put, setM, if_neg e]
      have far : i * 5 + 5 ≤ t * 5 ∨ t * 5 + 5 ≤ i * 5 := by omega
      exact ⟨(st5_cell _ _ _ _ _ _ _ _ _ (by omega)).trans y0, (st5_cell _ _ _ _ _ _ _ _ _ (by omega)).trans y1, (st5_cell _ _ _ _ _ _ _ _ _ (by omega)).trans y2, (st5_cell _ _ _ _ _ _ _ _ _ (by omega)).trans y3, (st5_cell _ _ _ _ _ _ _ _ _ (by omega)).trans y4⟩
  · by_cases e : i = t
    · subst e
      simp only [CS.put, setM, if_pos]
      exact hm.same (by rw [st5_size]; exact Nat.le_refl _) fun k hkk => hk k (fun e => hap (by rw [hkk, e]))
    · simp only [CS.put, setM, if_neg e]
      exact (H.own i hi).same (by rw [st5_size]; exact Nat.le_refl _) fun k hkk => hk k (fun e => H.apart i hi (by rw [hkk, e]))
  · unfold setM
    split
    · exact hap
    · exact H.apart i hi
  · unfold setM at hik ⊢
    split at hik
    · rw [if_neg (by omega)]
      exact htwo j hj (by omega) k hik
    · rename_i hit
      split
      · intro e2
        exact htwo i hi hit k e2 hik
      · exact H.two i j hi hj hij k hik
theorem CellIs.val {w : World} {h B : Nat} {c : CS} {ms : Nat → Value} (H : CellIs w h B c ms) (v : Int) : CellIs (w.setCell ⟨h, 2, none⟩ (.int .i64 v)) h B { c with value := v } ms := by
  have hk : ∀ k, k ≠ h → (w.setCell ⟨h, 2, none⟩ (.int .i64 v)).heap[k]? = w.heap[k]? := fun k hne => Below.heap_setCell w ⟨h, 2, none⟩ _ k hne
  have oth : ∀ j, j ≠ 2 → (w.setCell ⟨h, 2, none⟩ (.int .i64 v)).cell? ⟨h, j, none⟩ = w.cell? ⟨h, j, none⟩ := fun j hne => World.cell?_setCell_other _ _ _ _ (by simp <;> omega)
  refine ⟨by simpa using H.sz, (oth _ (by omega)).trans H.k0, (oth _ (by omega)).trans H.k1, World.cell?_setCell_same _ _ _ H.k2, fun i hi => ?_, fun j => by simpa [go_sem] using H.fz j, fun i hi => (H.own i hi).same (by simp) fun k hkk => hk k (fun e => H.apart i hi (by rw [hkk, e])), H.apart, H.two⟩
  obtain ⟨y0, y1, y2, y3, y4⟩ := H.acc i hi
  exact ⟨(oth _ (by omega)).trans y0, (oth _ (by omega)).trans y1, (oth _ (by omega)).trans y2, (oth _ (by omega)).trans y3, (oth _ (by omega)).trans y4⟩
theorem CellIs.up {w w' : World} {h B : Nat} {c : CS} {ms : Nat → Value} (H : CellIs w h B c ms) (u : Up w w') : CellIs w' h B c ms := by
  have hh := u.block h H.lt
  have cc : ∀ j, w'.cell? ⟨h, j, none⟩ = w.cell? ⟨h, j, none⟩ := fun j => cellE hh
  refine ⟨Nat.le_trans H.sz u.size, (cc _).trans H.k0, (cc _).trans H.k1, (cc _).trans H.k2, fun i hi => ?_, fun j => (frozenE hh).trans (H.fz j), fun i hi => (H.own i hi).same u.size fun k hkk => u.block k ((H.own i hi).ge k hkk).2, H.apart, H.two⟩
  obtain ⟨y0, y1, y2, y3, y4⟩ := H.acc i hi
  exact ⟨(cc _).trans y0, (cc _).trans y1, (cc _).trans y2, (cc _).trans y3, (cc _).trans y4⟩

end Go.Proofs.Ytedkgamecdmjdaa
