/-
  CellPlays: the program's cell beside the document's.
-/
import Derived.Test.YtpapcheliohacaaDocE
import Derived.Test.YtpapcheliohacaaHeld
import Derived.Test.YtpapcheliohacaaAct2
set_option linter.unusedVariables false
set_option linter.unusedSimpArgs false
namespace Go.Proofs.Ytpapcheliohacaa
open Go.RowKit

structure PlayW (w0 w : World) (h : Nat) (c : CS) (N r B : Nat) (D : DS) (Lv : Value) (T : Nat → Prop) : Prop where
  held : Held w0 w h c N (fun x => (x = r ∨ Lv.ownBlock = some x) ∨ T x)
  doc : DocIs w r B D Lv
  ge : w0.heap.size ≤ B
  ap : ∀ x, T x → x ≠ r ∧ Lv.ownBlock ≠ some x
theorem PlayW.up {w0 w w' : World} {h N r B : Nat} {c : CS} {D : DS} {Lv : Value} {T : Nat → Prop} (H : PlayW w0 w h c N r B D Lv T) (u : Up w w') : PlayW w0 w' h c N r B D Lv (fun x => T x ∨ (w.heap.size ≤ x ∧ x < w'.heap.size)) := by
  refine ⟨(H.held.grow u).less fun k hk => ?_, H.doc.up u, H.ge, fun x hx => ?_⟩
  · rcases hk with hk | hk | hk
    · exact .inl (.inl hk)
    · exact .inl (.inr hk)
    · exact .inr hk
  · rcases hx with hx | hx
    · exact H.ap x hx
    · exact ⟨by have := H.doc.lt; omega, fun e => by have := (H.doc.own.lt x e).2; omega⟩
theorem PlayW.less {w0 w : World} {h N r B : Nat} {c : CS} {D : DS} {Lv : Value} {S T : Nat → Prop} (H : PlayW w0 w h c N r B D Lv S) (hT : ∀ k, T k → S k) : PlayW w0 w h c N r B D Lv T :=
  ⟨H.held.less fun k hk => hk.imp id (hT k), H.doc, H.ge, fun x hx => H.ap x (hT x hx)⟩
theorem PlayW.prog {w0 w w' : World} {h N N' r B : Nat} {c c' : CS} {D : DS} {Lv : Value} {T : Nat → Prop} (H : PlayW w0 w h c N r B D Lv T) (hh : Held w0 w' h c' N' (fun x => (x = r ∨ Lv.ownBlock = some x) ∨ T x)) (hk : ∀ x, ((x = r ∨ Lv.ownBlock = some x) ∨ T x) → w'.heap[x]? = w.heap[x]?) : PlayW w0 w' h c' N' r B D Lv T :=
  ⟨hh, H.doc.keep (hk r (.inl (.inl rfl))) (fun k e => hk k (.inl (.inr e))), H.ge, H.ap⟩
theorem PlayW.call {w0 w w' : World} {h N r B : Nat} {c : CS} {D D' : DS} {Lv Lv' : Value} {T : Nat → Prop} (H : PlayW w0 w h c N r B D Lv T) (hd : DocIs w' r B D' Lv') (f : DFrame w w' r Lv Lv') : PlayW w0 w' h c N r B D' Lv' T ∧ ∀ x, T x → w'.heap[x]? = w.heap[x]? := by
  obtain ⟨h1, h2, h3, ms, h4, h5⟩ := H.held
  have hge := H.ge
  have hdg := H.doc.ge
  have hsame : ∀ x, T x → w'.heap[x]? = w.heap[x]? := fun x hx => f.block x (h5 x (.inr hx)).1 (H.ap x hx).1 (H.ap x hx).2
  refine ⟨⟨⟨h1, ⟨f.os.trans h2.os, f.tape.trans h2.tape, f.output.trans h2.output, Nat.le_trans h2.size f.size, fun k hk => (f.block k (Nat.lt_of_lt_of_le hk h2.size) (by omega) (fun e => by have := (H.doc.own.lt k e).1; omega)).trans (h2.block k hk)⟩, h3, ms, ?_, fun k hk => ?_⟩, hd, H.ge, fun x hx => ⟨(H.ap x hx).1, fun e => ?_⟩⟩, hsame⟩
  · refine h4.keep f.size (f.block h h4.lt (fun e => (h5 r (.inl (.inl rfl))).2.1 e.symm) (fun e => (h5 h (.inl (.inr e))).2.1 rfl)) fun i hi k e => f.block k ((h4.own i hi).ge k e).2 (fun e2 => (h5 r (.inl (.inl rfl))).2.2 i hi (by rw [e, e2])) (fun e2 => (h5 k (.inl (.inr e2))).2.2 i hi e)
  · rcases hk with (rfl | hk) | hk
    · obtain ⟨a, b, d⟩ := h5 k (.inl (.inl rfl))
      exact ⟨Nat.lt_of_lt_of_le a f.size, b, d⟩
    · rcases f.ob with e | e
      · obtain ⟨a, b, d⟩ := h5 k (.inl (.inr (by rw [← e]; exact hk)))
        exact ⟨Nat.lt_of_lt_of_le a f.size, b, d⟩
      · have hge2 := e k hk
        refine ⟨(hd.own.lt k hk).2, by have := h4.lt; omega, fun i hi e2 => by have := ((h4.own i hi).ge k e2).2; omega⟩
    · obtain ⟨a, b, d⟩ := h5 k (.inr hk)
      exact ⟨Nat.lt_of_lt_of_le a f.size, b, d⟩
  · rcases f.ob with e2 | e2
    · exact (H.ap x hx).2 (by rw [← e2]; exact e)
    · have := e2 x e
      have := (h5 x (.inr hx)).1
      omega
theorem playW_start {w0 w : World} {h : Nat} {c : CS} {kind top : Int} (L : Lives w0 w h c 0) :
    PlayW w0 (w.alloc (.cells #[.int .i64 kind, .int .i64 top, .int .i64 0, .int .i64 0, .slice none 0 0] 29)) h c 0 w.heap.size w.heap.size ⟨kind, top, 0, 0, []⟩ (.slice none 0 0) (fun _ => False) := by
  have hu : Up w (w.alloc (.cells #[.int .i64 kind, .int .i64 top, .int .i64 0, .int .i64 0, .slice none 0 0] 29)) := (Up.refl w).alloc _
  have hb := heap_alloc_new w (.cells #[.int .i64 kind, .int .i64 top, .int .i64 0, .int .i64 0, .slice none 0 0] 29)
  have hs : (w.alloc (.cells #[.int .i64 kind, .int .i64 top, .int .i64 0, .int .i64 0, .slice none 0 0] 29)).heap.size = w.heap.size + 1 := by simp
  refine ⟨(L.held.grow hu).less fun k hk => .inr ?_, ⟨cell_of_row _ _ 0 _ _ _ hb, cell_of_row _ _ 1 _ _ _ hb, cell_of_row _ _ 2 _ _ _ hb, cell_of_row _ _ 3 _ _ _ hb, cell_of_row _ _ 4 _ _ _ hb, fun j => frozen_of_row _ _ j _ _ hb, ⟨rfl, .inl ⟨rfl, rfl⟩⟩, by simp [Value.ownBlock], Nat.le_refl _⟩, L.2.1.size, fun x hx => hx.elim⟩
  rcases hk with (rfl | hk) | hk
  · omega
  · simp [Value.ownBlock] at hk
  · exact hk.elim
theorem DS.begin_few (D : DS) (t k cl v : Int) : (D.begin t k cl v).2.L.length ≤ D.L.length + 1 ∧ D.now ≤ (D.begin t k cl v).2.now ∧ (D.begin t k cl v).2.now ≤ D.now + 1 := by
  unfold DS.begin
  split
  · simp; omega
  split
  · simp; omega
  · simp; omega
theorem DS.endA_few (D : DS) (t d : Int) : (D.endA t d).2.2.L.length ≤ D.L.length ∧ D.now ≤ (D.endA t d).2.2.now ∧ (D.endA t d).2.2.now ≤ D.now + 1 := by
  unfold DS.endA
  dsimp only
  split
  · simp; omega
  split
  · simp; omega
  · simp; omega

end Go.Proofs.Ytpapcheliohacaa
