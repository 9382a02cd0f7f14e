/-
  The program's New and Take.
-/
import Derived.Test.YtlclijnoablejaaDoorStaH
set_option linter.unusedVariables false
set_option linter.unusedSimpArgs false
namespace Go.Proofs.YtlclijnoablejaaDoor
open Go.RowKit

theorem made_nils (n : Nat) : madeCells #[.slice none 0 0] n = (List.replicate n (Value.slice none 0 0)).toArray := by
  apply Array.ext'
  apply List.ext_getElem?
  intro j
  by_cases h : j < n
  · have := made_at (.slice none 0 0) n j h
    rw [Array.getElem?_toList, this]
    simp [h]
  · have hs : (madeCells #[Value.slice none 0 0] n).size = n := by simp [madeCells]
    rw [Array.getElem?_toList, Array.getElem?_eq_none (by omega)]
    simp; omega
theorem size_setCell (w : World) (a : Addr) (u : Value) : (w.setCell a u).heap.size = w.heap.size := by simp [World.setCell]
/-- A store into an older block leaves a younger row. -/
theorem Fresh.setCell {B : Nat} {w : World} {v : Value} {r : List Int} (h : Fresh B w v r) {a : Addr} (ha : a.block < B) (u : Value) : Fresh B (w.setCell a u) v r := by
  obtain ⟨A, c, e, hr, hb⟩ := h
  refine ⟨A, c, e, ⟨fun k hk => ?_, hr.le, hr.cap, hr.nil⟩, fun b off sp h => ⟨(hb b off sp h).1, by rw [size_setCell]; exact (hb b off sp h).2⟩⟩
  obtain ⟨b, off, ea, hc⟩ := hr.row k hk
  refine ⟨b, off, ea, ?_⟩
  have hbb := (hb b off none ea).1
  rw [← hc]
  unfold World.cell?
  rw [heap_setCell_other _ _ _ _ (show b ≠ a.block by omega)]
/-- A board under way: the block g, younger rows at the places that 'done' has. -/
def Under (g : Nat) (w : World) (ys : List Value) (L : List (List Int)) (done : Nat → Prop) : Prop :=
  w.heap[g]? = some (.cells ys.toArray 31 (0, 0)) ∧ ys.length = L.length ∧ ∀ k, k < L.length → done k → Fresh (g + 1) w (ys.getD k (.int .i64 0)) (L.getD k [])
theorem Under.up {g : Nat} {w w' : World} {ys : List Value} {L : List (List Int)} {done : Nat → Prop} (h : Under g w ys L done) (u : Up w w') : Under g w' ys L done :=
  ⟨(u.block _ (Array.getElem?_eq_some_iff.1 h.1).1).trans h.1, h.2.1, fun k hk hd => (h.2.2 k hk hd).up u⟩
theorem Under.set {g : Nat} {w : World} {ys : List Value} {L : List (List Int)} {done done' : Nat → Prop} {j : Nat} {v : Value} (h : Under g w ys L done) (hj : j < L.length) (hv : Fresh (g + 1) w v (L.getD j [])) (hd : ∀ k, done' k → k = j ∨ done k) :
    Under g (w.setCell ⟨g, j, none⟩ v) (ys.set j v) L done' := by
  refine ⟨?_, by rw [List.length_set]; exact h.2.1, fun k hk hdk => ?_⟩
  · rw [heap_setCell_same w g j _ _ _ h.1]; simp
  · by_cases hkj : k = j
    · subst hkj
      rw [List.getD_eq_getElem?_getD, List.getElem?_set_self (by rw [h.2.1]; exact hj)]
      exact hv.setCell (Nat.lt_succ_self _) _
    · rw [List.getD_eq_getElem?_getD, List.getElem?_set_ne (fun e => hkj e.symm), ← List.getD_eq_getElem?_getD]
      exact (h.2.2 k hk ((hd k hdk).resolve_left hkj)).setCell (Nat.lt_succ_self _) _
theorem Under.brow {g : Nat} {w : World} {ys : List Value} {L : List (List Int)} {done : Nat → Prop} (h : Under g w ys L done) (hd : ∀ k, k < L.length → done k) : BRow w (some ⟨g, 0, none⟩) L := fun k hk => by
  obtain ⟨A, c, e, hr, hb⟩ := h.2.2 k hk (hd k hk)
  refine ⟨g, 0, A, c, rfl, ?_, hr⟩
  rw [Nat.zero_add, cell_of_row w g k _ _ _ h.1, ← e]
  rw [List.getElem?_toArray, List.getD_eq_getElem?_getD, List.getElem?_eq_getElem (by rw [h.2.1]; exact hk)]
  rfl
theorem Under.store {g : Nat} {w : World} {ys : List Value} {L : List (List Int)} {done : Nat → Prop} (h : Under g w ys L done) {j : Nat} (hj : j < L.length) : (∃ d, w.cell? ⟨g, j, none⟩ = some d) ∧ w.frozen? ⟨g, j, none⟩ = false := by
  refine ⟨⟨ys[j]'(by rw [h.2.1]; exact hj), ?_⟩, by simp [World.frozen?, h.1]⟩
  rw [cell_of_row w g j _ _ _ h.1]
  rw [List.getElem?_toArray, List.getElem?_eq_getElem]
theorem Under.congr {g : Nat} {w : World} {ys : List Value} {L : List (List Int)} {done done' : Nat → Prop} (h : Under g w ys L done) (hd : ∀ k, done' k → done k) : Under g w ys L done' := ⟨h.1, h.2.1, fun k hk hdk => h.2.2 k hk (hd k hdk)⟩
/-- No row lies in the block o; all lie in old blocks. -/
def ApB (w : World) (ys : List Value) (o : Option Nat) : Prop := ∀ (k b off : Nat) (sp : Option Nat) (n c : Nat), ys[k]? = some (Value.slice (some ⟨b, off, sp⟩) n c) → b < w.heap.size ∧ o ≠ some b
theorem Fresh.grown {B : Nat} {w w' : World} {v : Value} {r : List Int} {o : Option Nat} (h : Fresh B w v r) (hg : w.grownBy w' o) (hne : ∀ b off sp n c, v = .slice (some ⟨b, off, sp⟩) n c → o ≠ some b) : Fresh B w' v r := by
  obtain ⟨A, c, e, hr, hb⟩ := h
  refine ⟨A, c, e, ⟨fun k hk => ?_, hr.le, hr.cap, hr.nil⟩, fun b off sp h => ⟨(hb b off sp h).1, Nat.lt_of_lt_of_le (hb b off sp h).2 hg.size⟩⟩
  obtain ⟨b, off, ea, hc⟩ := hr.row k hk
  refine ⟨b, off, ea, ?_⟩
  rw [← hc]
  refine World.cell?_of_block (hg.block b (cell_lt hc) (fun e2 => ?_))
  subst ea
  exact hne b off none _ _ e e2.symm
theorem Under.grown {g : Nat} {w w' : World} {ys : List Value} {L : List (List Int)} {done : Nat → Prop} {o : Option Nat} (h : Under g w ys L done) (ha : ApB w ys o) (hg : w.grownBy w' o) (ho : o ≠ some g) : Under g w' ys L done := by
  refine ⟨(hg.block g (Array.getElem?_eq_some_iff.1 h.1).1 (fun e => ho e.symm)).trans h.1, h.2.1, fun k hk hd => (h.2.2 k hk hd).grown hg (fun b off sp n c e => (ha k b off sp n c ?_).2)⟩
  rw [← e, List.getD_eq_getElem?_getD, List.getElem?_eq_getElem (by rw [h.2.1]; exact hk)]; rfl
theorem ApB.nils (w : World) (n : Nat) (o : Option Nat) : ApB w (List.replicate n (Value.slice none 0 0)) o := fun k b off sp m c h => by
  rw [List.getElem?_replicate] at h
  split at h
  · injection h with h; cases h
  · cases h
theorem ApB.grown {w w' : World} {ys : List Value} {o : Option Nat} {g : Nat} (h : ApB w ys o) (hs : w.heap.size ≤ w'.heap.size) (hor : o = some g ∨ w.heap.size ≤ g) : ApB w' ys (some g) := fun k b off sp n c e => by
  obtain ⟨h1, h2⟩ := h k b off sp n c e
  refine ⟨by omega, fun e2 => ?_⟩
  injection e2 with e2
  subst e2
  rcases hor with h3 | h3
  · exact h2 h3
  · omega
theorem ApB.set {w w' : World} {ys : List Value} {g j : Nat} {v : Value} {r : List Int} (h : ApB w ys (some g)) (hs : w.heap.size ≤ w'.heap.size) (hf : Fresh w.heap.size w' v r) (hg : g < w.heap.size) : ApB w' (ys.set j v) (some g) := fun k b off sp n c e => by
  rw [List.getElem?_set] at e
  split at e
  · split at e
    · injection e with e
      obtain ⟨A, c', e1, _, hb⟩ := hf
      rw [e1] at e
      injection e with e2 e3 e4
      have := hb b off sp e2
      refine ⟨this.2, fun e5 => ?_⟩
      injection e5 with e5
      omega
    · cases e
  · obtain ⟨h1, h2⟩ := h k b off sp n c e
    exact ⟨by omega, h2⟩
/-- A store below the board leaves it. -/
theorem Under.setLow {g : Nat} {w : World} {ys : List Value} {L : List (List Int)} {done : Nat → Prop} (h : Under g w ys L done) {a : Addr} (ha : a.block < g) (u : Value) : Under g (w.setCell a u) ys L done :=
  ⟨by rw [heap_setCell_other _ _ _ _ (show g ≠ a.block by omega)]; exact h.1, h.2.1, fun k hk hd => (h.2.2 k hk hd).setCell (by omega) u⟩
theorem Under.swap {g : Nat} {w : World} {ys : List Value} {L L' : List (List Int)} {done : Nat → Prop} (h : Under g w ys L done) (hl : L'.length = L.length) (he : ∀ k, done k → L'.getD k [] = L.getD k []) : Under g w ys L' done :=
  ⟨h.1, by rw [hl]; exact h.2.1, fun k hk hd => by rw [he k hd]; exact h.2.2 k (by rw [← hl]; exact hk) hd⟩
theorem getD_rep {n k : Nat} {r : List Int} (h : k < n) : (List.replicate n r).getD k [] = r := by
  rw [List.getD_eq_getElem?_getD, List.getElem?_replicate, if_pos h]; rfl
def newP (n : Nat) : List (List Int) := List.replicate n (List.replicate (n - 1) 0)

set_option maxRecDepth 10000 in
set_option maxHeartbeats 1000000 in
theorem new_yes (n : Nat) (w : World) (h1 : 1 ≤ n) (h8 : n ≤ 8) : Calls Tryd.prog 7 #[.int .i64 n] w fun e w' => ∃ A c, e = .returned (.tuple #[.slice A n c, .int .i64 0]) ∧ BRow w' A (newP n) ∧ Up w w' := by
  have hi1 : (1 : Int) ≤ n := by omega
  have hi8 : (n : Int) ≤ 8 := by omega
  have HKE : Hid ((n : Int) - 1 = ((n - 1 : Nat) : Int)) := Lib.hid (by omega)
  have HZ := Lib.hid (fun W => zeros_post (n - 1) (by omega) W)
  have hmk : ∀ W : World, (Instr.makeSlice 22 (.int .i64 n) (.int .i64 n)).run Tryd.prog W = .ok (.slice (some ⟨W.heap.size, 0, none⟩) n n) (W.alloc (.cells (madeCells #[.slice none 0 0] n) 31)) := fun W =>
    run_make_row' 22 31 (.slice none 0 0) 24 Tryd.underlying22 infoRow rfl .i64 .i64 n (by omega) (by omega) W
  have HU0 : Hid (Under w.heap.size (w.alloc (.cells (madeCells #[.slice none 0 0] n) 31)) (List.replicate n (.slice none 0 0)) (newP n) (fun k => k < 0)) := Lib.hid ⟨by rw [← made_nils]; exact heap_alloc_new w _, by simp [newP], fun k _ h => absurd h (Nat.not_lt_zero k)⟩
  have HUP := Lib.hid ((Up.refl w).alloc (.cells (madeCells #[.slice none 0 0] n) 31))
  have HLN : Hid ((newP n).length = n) := Lib.hid (by simp [newP])
  have HGD : Hid (∀ j, j < n → (newP n).getD j [] = List.replicate (n - 1) 0) := Lib.hid (fun j hj => getD_rep hj)
  clear h1 h8
  go_enter Tryd.func7, Tryd.ntmps7
  go_wp2_with fail
  go_loopw [16] (fun x wr => ∃ (j : Nat) (ys : List Value), j ≤ n ∧ x = .int .i64 j ∧ Hid (Under w.heap.size wr ys (newP n) (fun k => k < j)) ∧ Hid (Up w wr)) (fun x _ => n - (intOf x).toNat)
  case atStart => exact ⟨0, _, by omega, rfl, HU0, HUP⟩
  case round =>
    obtain ⟨j, ys, hj, rfl, HN, HV⟩ := hrel
    by_cases hlt : j < n
    · have hji : (j : Int) < n := by omega
      have hj0 : (0 : Int) ≤ j := by omega
      go_wp2_with fail
      rw [HKE.out]
      refine (HZ.out _).mono ?_
      rintro e w3 ⟨A3, c3, rfl, hr3, hb3, hu3⟩
      have HN3 := Lib.hid (HN.out.up hu3)
      have HF3 : Hid (Fresh (w.heap.size + 1) w3 (.slice A3 (n - 1) c3) (List.replicate (n - 1) 0)) := Lib.hid ⟨A3, c3, by rw [List.length_replicate], hr3, fun b off sp h => by
        have := hb3 b off sp h
        have := (Array.getElem?_eq_some_iff.1 HN.out.1).1
        exact ⟨by omega, by omega⟩⟩
      have HV3 := Lib.hid (HV.out.trans hu3)
      obtain ⟨⟨d, hd⟩, hfz⟩ := HN3.out.store (j := j) (by rw [HLN.out]; exact hlt)
      clear hr3 hb3 hu3
      go_wp2_with fail
      go_roundw
      case rel => exact ⟨j + 1, _, by omega, by go_num, Lib.hid (HN3.out.set (by rw [HLN.out]; exact hlt) (by rw [HGD.out j hlt]; exact HF3.out) (fun k (hk : k < j + 1) => by omega)), Lib.hid (Below.setCell HV3.out (Nat.le_refl _) _)⟩
      case measure => simp [intOf]; omega
    · obtain rfl : j = n := by omega
      clear hlt
      go_wp2_with fail
      go_ret2
      exact ⟨_, _, rfl, HN.out.brow (fun k hk => by rw [HLN.out] at hk; exact hk), HV.out⟩
theorem new_no (n : Int) (w : World) (h : n < 1 ∨ 8 < n) : Calls Tryd.prog 7 #[.int .i64 n] w fun e w' => e = .returned (.tuple #[.slice none 0 0, .int .i64 6]) ∧ w = w' := by
  by_cases h1 : n < 1
  · clear h
    go_enter Tryd.func7, Tryd.ntmps7
    go_wp2_with fail
    go_ret2
    exact ⟨rfl, rfl⟩
  · have h8 := h.resolve_left h1
    have h1' : 1 ≤ n := by omega
    clear h h1
    go_enter Tryd.func7, Tryd.ntmps7
    go_wp2_with fail
    go_ret2
    exact ⟨rfl, rfl⟩

end Go.Proofs.YtlclijnoablejaaDoor
