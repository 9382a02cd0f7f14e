/-
  The document's cell in memory: what a store and an append leave.
-/
import Derived.Test.YtpapcheliohacaaSeen
set_option linter.unusedVariables false
set_option linter.unusedSimpArgs false
namespace Go.Proofs.Ytpapcheliohacaa
open Go.RowKit

/-- What else may be otherwise behind a call: the cell's block, its list's own, and new ones. -/
structure DFrame (w w' : World) (r : Nat) (Lv Lv' : Value) : Prop where
  os : w'.os = w.os
  tape : w'.tape = w.tape
  output : w'.output = w.output
  size : w.heap.size ≤ w'.heap.size
  block : ∀ k, k < w.heap.size → k ≠ r → Lv.ownBlock ≠ some k → w'.heap[k]? = w.heap[k]?
  ob : Lv'.ownBlock = Lv.ownBlock ∨ ∀ k, Lv'.ownBlock = some k → w.heap.size ≤ k
theorem DFrame.ofUp {w w' : World} {r : Nat} {Lv : Value} (u : Up w w') : DFrame w w' r Lv Lv := ⟨u.os, u.tape, u.output, u.size, fun k hk _ _ => u.block k hk, .inl rfl⟩
theorem DFrame.trans {a b c : World} {r : Nat} {L1 L2 L3 : Value} (f : DFrame a b r L1 L2) (g : DFrame b c r L2 L3) : DFrame a c r L1 L3 := by
  refine ⟨g.os.trans f.os, g.tape.trans f.tape, g.output.trans f.output, Nat.le_trans f.size g.size, fun k hk h1 h2 => (g.block k (Nat.lt_of_lt_of_le hk f.size) h1 fun e => ?_).trans (f.block k hk h1 h2), ?_⟩
  · rcases f.ob with h | h
    · exact h2 (h ▸ e)
    · have := h k e; omega
  · rcases g.ob with h | h
    · rw [h]; exact f.ob
    · exact .inr fun k e => Nat.le_trans f.size (h k e)
/-- A store into the cell's block, or a new one. -/
theorem DFrame.store {a w : World} {r b : Nat} {L1 L2 : Value} (f : DFrame a w r L1 L2) (p : Nat) (v : Value) (hb : b = r ∨ a.heap.size ≤ b) : DFrame a (w.setCell ⟨b, p, none⟩ v) r L1 L2 :=
  ⟨f.os, f.tape, f.output, by simpa using f.size, fun k hk h1 h2 => (Below.heap_setCell w ⟨b, p, none⟩ v k (show k ≠ b by omega)).trans (f.block k hk h1 h2), f.ob⟩
/-- A store into the list. -/
theorem DFrame.storeL {a w : World} {r g : Nat} {L1 L2 : Value} (f : DFrame a w r L1 L2) (p : Nat) (v : Value) (hg : L2.ownBlock = some g) : DFrame a (w.setCell ⟨g, p, none⟩ v) r L1 L2 := by
  refine ⟨f.os, f.tape, f.output, by simpa using f.size, fun k hk h1 h2 => ?_, f.ob⟩
  refine (Below.heap_setCell w ⟨g, p, none⟩ v k (show k ≠ g from fun e => ?_)).trans (f.block k hk h1 h2)
  rcases f.ob with h | h
  · exact h2 (by rw [← h, hg, e])
  · have := h g hg; omega
theorem DocIs.keep {w w' : World} {r B : Nat} {D : DS} {Lv : Value} (H : DocIs w r B D Lv) (hr : w'.heap[r]? = w.heap[r]?) (hl : ∀ k, Lv.ownBlock = some k → w'.heap[k]? = w.heap[k]?) : DocIs w' r B D Lv :=
  ⟨(cellE hr).trans H.k0, (cellE hr).trans H.k1, (cellE hr).trans H.k2, (cellE hr).trans H.k3, (cellE hr).trans H.k4, fun j => (frozenE hr).trans (H.fz j), own_same H.own hl, H.apart, H.ge⟩
theorem DocIs.setNow {w : World} {r B : Nat} {D : DS} {Lv : Value} (H : DocIs w r B D Lv) (x : Int) : DocIs (w.setCell ⟨r, 3, none⟩ (.int .i64 x)) r B { D with now := x } Lv := by
  have ho : ∀ j, j ≠ 3 → (w.setCell ⟨r, 3, none⟩ (.int .i64 x)).cell? ⟨r, j, none⟩ = w.cell? ⟨r, j, none⟩ := fun j hj => World.cell?_setCell_other _ _ _ _ (by simp <;> omega)
  exact ⟨(ho 0 (by decide)).trans H.k0, (ho 1 (by decide)).trans H.k1, (ho 2 (by decide)).trans H.k2, World.cell?_setCell_same _ _ _ H.k3, (ho 4 (by decide)).trans H.k4, fun j => by simpa [go_sem] using H.fz j,
    own_same H.own fun k e => Below.heap_setCell w ⟨r, 3, none⟩ _ k (fun e2 => H.apart (by rw [e, e2])), H.apart, H.ge⟩
theorem DocIs.setValue {w : World} {r B : Nat} {D : DS} {Lv : Value} (H : DocIs w r B D Lv) (x : Int) : DocIs (w.setCell ⟨r, 2, none⟩ (.int .i64 x)) r B { D with value := x } Lv := by
  have ho : ∀ j, j ≠ 2 → (w.setCell ⟨r, 2, none⟩ (.int .i64 x)).cell? ⟨r, j, none⟩ = w.cell? ⟨r, j, none⟩ := fun j hj => World.cell?_setCell_other _ _ _ _ (by simp <;> omega)
  exact ⟨(ho 0 (by decide)).trans H.k0, (ho 1 (by decide)).trans H.k1, World.cell?_setCell_same _ _ _ H.k2, (ho 3 (by decide)).trans H.k3, (ho 4 (by decide)).trans H.k4, fun j => by simpa [go_sem] using H.fz j,
    own_same H.own fun k e => Below.heap_setCell w ⟨r, 2, none⟩ _ k (fun e2 => H.apart (by rw [e, e2])), H.apart, H.ge⟩
theorem dcells_set (L : List DA) : ∀ j, j < L.length → ∀ x, dcells (L.set j { L.getD j da0 with to := x }) = (dcells L).set (j * 7 + 5) (.int .i64 x) := by
  induction L with
  | nil => intro j hj; simp at hj
  | cons a l ih =>
    intro j hj x
    cases j with
    | zero => rfl
    | succ j =>
      have e : dcells (a :: l) = dcell a ++ dcells l := rfl
      have e7 : (dcell a).length = 7 := rfl
      rw [e, List.set_append_right _ _ (by omega), e7, show (j + 1) * 7 + 5 - 7 = j * 7 + 5 by omega]
      show dcell a ++ dcells (l.set j { l.getD j da0 with to := x }) = _
      rw [ih j (by simpa using hj) x]
theorem DocIs.setTo {w : World} {r B g cap : Nat} {D : DS} (H : DocIs w r B D (.slice (some ⟨g, 0, none⟩) D.L.length cap)) (j : Nat) (hj : j < D.L.length) (x : Int) :
    DocIs (w.setCell ⟨g, j * 7 + 5, none⟩ (.int .i64 x)) r B { D with L := D.L.set j { D.L.getD j da0 with to := x } } (.slice (some ⟨g, 0, none⟩) D.L.length cap) := by
  have hgr : g ≠ r := fun e => H.apart (by rw [← e]; rfl)
  have hr : (w.setCell ⟨g, j * 7 + 5, none⟩ (.int .i64 x)).heap[r]? = w.heap[r]? := Below.heap_setCell w ⟨g, j * 7 + 5, none⟩ _ r (show r ≠ g from fun e => hgr e.symm)
  refine ⟨(cellE hr).trans H.k0, (cellE hr).trans H.k1, (cellE hr).trans H.k2, (cellE hr).trans H.k3, (cellE hr).trans H.k4, fun j => (frozenE hr).trans (H.fz j), ?_, H.apart, H.ge⟩
  show World.ownsRow _ B _ 7 _ (D.L.set j _).length (dcells (D.L.set j _))
  rw [List.length_set, dcells_set _ _ hj]
  exact (H.own.stored (j * 7 + 5) (.int .i64 x)).1
theorem doc_append {w W w1 : World} {r B g1 cap : Nat} {D : DS} {Lv : Value} {a : DA} (H : DocIs w r B D Lv) (u : Up w W) (hown : w1.ownsRow B 71 7 (.slice (some ⟨g1, 0, none⟩) (D.L.length + 1) cap) (D.L.length + 1) (dcells D.L ++ dcell a)) (hg : W.grownBy w1 Lv.ownBlock) (hor : Lv.ownBlock = some g1 ∨ w.heap.size ≤ g1) :
    (w1.cell? ⟨r, 4, none⟩ = some Lv ∧ w1.frozen? ⟨r, 4, none⟩ = false) ∧ DocIs (w1.setCell ⟨r, 4, none⟩ (.slice (some ⟨g1, 0, none⟩) (D.L.length + 1) cap)) r B { D with L := D.L ++ [a] } (.slice (some ⟨g1, 0, none⟩) (D.L.length + 1) cap) ∧
      DFrame w (w1.setCell ⟨r, 4, none⟩ (.slice (some ⟨g1, 0, none⟩) (D.L.length + 1) cap)) r Lv (.slice (some ⟨g1, 0, none⟩) (D.L.length + 1) cap) := by
  have hlt := H.lt
  have hk : ∀ k, k < w.heap.size → Lv.ownBlock ≠ some k → w1.heap[k]? = w.heap[k]? := fun k h1 h2 => (hg.block k (Nat.lt_of_lt_of_le h1 u.size) (fun e => h2 e.symm)).trans (u.block k h1)
  have hr : w1.heap[r]? = w.heap[r]? := hk r hlt H.apart
  have hgr : g1 ≠ r := by
    rcases hor with h | h
    · exact fun e => H.apart (by rw [← e]; exact h)
    · omega
  have k4 : w1.cell? ⟨r, 4, none⟩ = some Lv := (cellE hr).trans H.k4
  have ho : ∀ j, j ≠ 4 → (w1.setCell ⟨r, 4, none⟩ (.slice (some ⟨g1, 0, none⟩) (D.L.length + 1) cap)).cell? ⟨r, j, none⟩ = w.cell? ⟨r, j, none⟩ := fun j hj => (World.cell?_setCell_other _ _ _ _ (by simp <;> omega)).trans (cellE hr)
  refine ⟨⟨k4, (frozenE hr).trans (H.fz 4)⟩, ⟨(ho 0 (by decide)).trans H.k0, (ho 1 (by decide)).trans H.k1, (ho 2 (by decide)).trans H.k2, (ho 3 (by decide)).trans H.k3, World.cell?_setCell_same _ _ _ k4, fun j => ?_, ?_, ?_, H.ge⟩, ?_⟩
  · have : (w1.setCell ⟨r, 4, none⟩ (.slice (some ⟨g1, 0, none⟩) (D.L.length + 1) cap)).frozen? ⟨r, j, none⟩ = w1.frozen? ⟨r, j, none⟩ := by simp [go_sem]
    rw [this]
    exact (frozenE hr).trans (H.fz j)
  · show World.ownsRow _ B _ 7 _ (D.L ++ [a]).length (dcells (D.L ++ [a]))
    rw [List.length_append, dcells_append]
    refine own_same hown fun k e => Below.heap_setCell w1 ⟨r, 4, none⟩ _ k (show k ≠ r from ?_)
    simp only [Value.ownBlock, Option.some.injEq] at e
    omega
  · simp only [Value.ownBlock, ne_eq, Option.some.injEq]
    exact hgr
  · refine ⟨hg.os.trans u.os, hg.tape.trans u.tape, hg.output.trans u.output, by have h1 := hg.size; have h2 := u.size; simp only [World.size_setCell]; omega, fun k h1 h2 h3 => (Below.heap_setCell w1 ⟨r, 4, none⟩ _ k h2).trans (hk k h1 h3), ?_⟩
    rcases hor with h | h
    · exact .inl (by rw [h]; rfl)
    · refine .inr fun k e => ?_
      simp only [Value.ownBlock, Option.some.injEq] at e
      omega

end Go.Proofs.Ytpapcheliohacaa
