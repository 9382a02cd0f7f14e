/-
  Chapter 19's alive.
-/
import Derived.Test.YtpefcbmmbpcalaaOfC
import Derived.Test.YtpefcbmmbpcalaaRFin
import Derived.Test.YtpefcbmmbpcalaaFinA
import Derived.Test.YtpefcbmmbpcalaaSameO
set_option linter.unusedVariables false
set_option linter.unusedSimpArgs false
namespace Go.Proofs.Ytpefcbmmbpcalaa
open Go.RowKit

def nA : OpD := ⟨1, 3, false, 0, 0⟩
def nB : OpD := ⟨4, -1, true, 0, 0⟩
def nC : OpD := ⟨1, 4, false, 0, 0⟩
def nE : OpD := ⟨3, 5, true, 7, 0⟩
theorem oprow_lit (w : World) (l : List OpD) (e : TypeId) : OpRow (w.alloc (.cells (ocells l).toArray e)) (some ⟨w.heap.size, 0, none⟩) l := fun k hk =>
  ⟨w.heap.size, 0, rfl, by rw [Nat.zero_add]; exact opAt_block (heap_alloc_new w _) (fun j hj => ocells_at l k hk j hj)⟩
/-- An operation in a box, the three of them in the first blocks. -/
structure Box3 (N : Nat) (W : World) : Prop where
  a : W.heap[N]? = some (.cells #[.int .i64 1, .int .i64 3, .bool false, .int .i64 0, .int .i64 0] 24 (0, 0))
  b : W.heap[N + 1]? = some (.cells #[.int .i64 4, .int .i64 (-1), .bool true, .int .i64 0, .int .i64 0] 24 (0, 0))
  c : W.heap[N + 1 + 1]? = some (.cells #[.int .i64 1, .int .i64 4, .bool false, .int .i64 0, .int .i64 0] 24 (0, 0))
theorem Box3.up {N : Nat} {W W' : World} (h : Box3 N W) (u : Up W W') : Box3 N W' := ⟨box_up h.a u, box_up h.b u, box_up h.c u⟩

theorem heap_seven (w : World) (a b c d e f g : Obj) : let W := ((((((w.alloc a).alloc b).alloc c).alloc d).alloc e).alloc f).alloc g
    W.heap[w.heap.size]? = some a ∧ W.heap[w.heap.size + 1]? = some b ∧ W.heap[w.heap.size + 1 + 1]? = some c ∧ W.heap[w.heap.size + 1 + 1 + 1]? = some d ∧ W.heap[w.heap.size + 1 + 1 + 1 + 1]? = some e ∧ W.heap[w.heap.size + 1 + 1 + 1 + 1 + 1 + 1]? = some g := by
  intro W
  have s : ∀ (X : World) (o : Obj), (X.alloc o).heap.size = X.heap.size + 1 := fun X o => by simp
  have h1 := heap_alloc_new w a
  have h2 := heap_alloc_new (w.alloc a) b
  have h3 := heap_alloc_new ((w.alloc a).alloc b) c
  have h4 := heap_alloc_new (((w.alloc a).alloc b).alloc c) d
  have h5 := heap_alloc_new ((((w.alloc a).alloc b).alloc c).alloc d) e
  have h7 := heap_alloc_new ((((((w.alloc a).alloc b).alloc c).alloc d).alloc e).alloc f) g
  rw [s] at h2
  rw [s, s] at h3
  rw [s, s, s] at h4
  rw [s, s, s, s] at h5
  rw [s, s, s, s, s, s] at h7
  have u : ∀ (X : World) (o : Obj), Up X (X.alloc o) := fun X o => (Up.refl X).alloc o
  exact ⟨box_up (box_up (box_up (box_up (box_up (box_up h1 (u _ _)) (u _ _)) (u _ _)) (u _ _)) (u _ _)) (u _ _),
    box_up (box_up (box_up (box_up (box_up h2 (u _ _)) (u _ _)) (u _ _)) (u _ _)) (u _ _),
    box_up (box_up (box_up (box_up h3 (u _ _)) (u _ _)) (u _ _)) (u _ _), box_up (box_up (box_up h4 (u _ _)) (u _ _)) (u _ _), box_up (box_up h5 (u _ _)) (u _ _), h7⟩
theorem alive19_lays (w : World) : ∃ W, W = (((((((w.alloc (.cells #[.int .i64 1, .int .i64 3, .bool false, .int .i64 0, .int .i64 0] 24)).alloc (.cells #[.int .i64 4, .int .i64 (-1), .bool true, .int .i64 0, .int .i64 0] 24)).alloc (.cells #[.int .i64 1, .int .i64 4, .bool false, .int .i64 0, .int .i64 0] 24)).alloc (.cells #[.int .i64 16, .int .i64 2, .int .i64 7] 37)).alloc (.cells #[.slice (some ⟨w.heap.size + 1 + 1 + 1, 0, none⟩) 1 1] 38)).alloc (.cells #[.slice none 0 0, .slice (some ⟨w.heap.size + 1 + 1 + 1 + 1, 0, none⟩) 1 1, .slice none 0 0, .slice none 0 0] 44)).alloc (.cells #[.int .i64 3, .int .i64 1, .int .i64 0, .int .i64 0, .int .i64 0, .int .i64 0, .int .i64 0, .int .i64 5, .int .i64 2, .int .i64 0, .int .i64 0, .int .i64 0, .int .i64 0, .int .i64 0] 49)) ∧ Box3 w.heap.size W ∧ W.cell? ⟨w.heap.size + 1 + 1 + 1 + 1, 0, none⟩ = some (.slice (some ⟨w.heap.size + 1 + 1 + 1, 0, none⟩) 1 1) ∧ (W.cell? ⟨w.heap.size + 1 + 1 + 1, 0, none⟩ = some (.int .i64 16) ∧ W.cell? ⟨w.heap.size + 1 + 1 + 1, 1, none⟩ = some (.int .i64 2) ∧ W.cell? ⟨w.heap.size + 1 + 1 + 1, 2, none⟩ = some (.int .i64 7)) ∧ EvRow W (w.heap.size + 1 + 1 + 1 + 1 + 1 + 1) ∧ Up w W := by
  obtain ⟨h1, h2, h3, h4, h5, h7⟩ := heap_seven w (.cells #[.int .i64 1, .int .i64 3, .bool false, .int .i64 0, .int .i64 0] 24) (.cells #[.int .i64 4, .int .i64 (-1), .bool true, .int .i64 0, .int .i64 0] 24) (.cells #[.int .i64 1, .int .i64 4, .bool false, .int .i64 0, .int .i64 0] 24) (.cells #[.int .i64 16, .int .i64 2, .int .i64 7] 37) (.cells #[.slice (some ⟨w.heap.size + 1 + 1 + 1, 0, none⟩) 1 1] 38) (.cells #[.slice none 0 0, .slice (some ⟨w.heap.size + 1 + 1 + 1 + 1, 0, none⟩) 1 1, .slice none 0 0, .slice none 0 0] 44) (.cells #[.int .i64 3, .int .i64 1, .int .i64 0, .int .i64 0, .int .i64 0, .int .i64 0, .int .i64 0, .int .i64 5, .int .i64 2, .int .i64 0, .int .i64 0, .int .i64 0, .int .i64 0, .int .i64 0] 49)
  exact ⟨_, rfl, ⟨h1, h2, h3⟩, cell_of_row _ _ 0 _ _ _ h5, ⟨cell_of_row _ _ 0 _ _ _ h4, cell_of_row _ _ 1 _ _ _ h4, cell_of_row _ _ 2 _ _ _ h4⟩, h7, (((((((Up.refl w).alloc _).alloc _).alloc _).alloc _).alloc _).alloc _).alloc _⟩

set_option maxRecDepth 10000 in
set_option maxHeartbeats 1000000 in
theorem alive19_any (w : World) : Calls Try.prog 6 #[] w fun e w' => e = .returned (.bool true) ∧ Up w w' := by
  have HC1 := Lib.hid (fun W => ahead_any nA nB W)
  have HC2 := Lib.hid (fun W => ahead_any nC nB W)
  have HC3 := Lib.hid (fun W => both_any nB nC W)
  have HC4 := Lib.hid (fun A c W h => fine_any [nA, nB] A c W (by decide) h)
  have HC5 := Lib.hid (fun A c W h => fine_any [nB, nA] A c W (by decide) h)
  have HC6 := Lib.hid (fun A B c d W h k => rsame_any [nE] [nE] A B c d W (by decide) (by decide) h k)
  have HC7 := Lib.hid (fun A c W h => only_any [nA, nB] A c true W (by decide) h)
  rw [show aheadB nA nB = true from by decide] at HC1
  rw [show aheadB nC nB = false from by decide] at HC2
  rw [show bothB nB nC = true from by decide] at HC3
  rw [show fineP [nA, nB] = true from by decide] at HC4
  rw [show fineP [nB, nA] = false from by decide] at HC5
  rw [show sameL [nE] [nE] = true from by decide] at HC6
  rw [show onlyL [nA, nB] true = [nB] from rfl] at HC7
  simp only [oagg, nA, nB, nC] at HC1 HC2 HC3
  obtain ⟨W, hW, hbx, hp, ⟨hq0, hq1, hq2⟩, hev, hup⟩ := alive19_lays w
  have HOF := Lib.hid (of_one _ _ _ W hp hq0 hq1 hq2 hev)
  have HBX := Lib.hid hbx
  have HUP := Lib.hid hup
  have HW := Lib.hid hW
  unfold scagg at HOF
  clear hW hbx hp hq0 hq1 hq2 hev hup
  go_enter Try.func6, Try.ntmps6
  go_wp2_with fail
  rw [← HW.out]
  clear HW
  refine HOF.out.mono ?_
  rintro e w1 ⟨v, rfl, ho1, hu1⟩
  obtain ⟨A1, c1, rfl, hr1⟩ := OwnO.row ho1
  have HU1 := Lib.hid (HUP.out.trans hu1)
  have HB1 := Lib.hid (HBX.out.up hu1)
  have HR1 := Lib.hid hr1
  obtain ⟨a0, a1, a2, a3, a4⟩ := box_cells HB1.out.a
  obtain ⟨b0, b1, b2, b3, b4⟩ := box_cells HB1.out.b
  obtain ⟨c0, c1', c2, c3, c4⟩ := box_cells HB1.out.c
  clear ho1 hu1 hr1 HBX HOF
  go_wp2_with fail
  refine (HC1.out _).mono ?_
  rintro e w2 ⟨rfl, hu2⟩
  have HU2 := Lib.hid (HU1.out.trans hu2)
  have HS2 := Lib.hid hu2
  have HB2 := Lib.hid (HB1.out.up hu2)
  clear hu2 a0 a1 a2 a3 a4 b0 b1 b2 b3 b4 c0 c1' c2 c3 c4
  obtain ⟨a0, a1, a2, a3, a4⟩ := box_cells HB2.out.a
  obtain ⟨b0, b1, b2, b3, b4⟩ := box_cells HB2.out.b
  obtain ⟨c0, c1', c2, c3, c4⟩ := box_cells HB2.out.c
  go_wp2_with fail
  refine (HC2.out _).mono ?_
  rintro e w3 ⟨rfl, hu3⟩
  have HU3 := Lib.hid (HU2.out.trans hu3)
  have HS3 := Lib.hid (HS2.out.trans hu3)
  have HB3 := Lib.hid (HB2.out.up hu3)
  clear hu3 a0 a1 a2 a3 a4 b0 b1 b2 b3 b4 c0 c1' c2 c3 c4
  obtain ⟨a0, a1, a2, a3, a4⟩ := box_cells HB3.out.a
  obtain ⟨b0, b1, b2, b3, b4⟩ := box_cells HB3.out.b
  obtain ⟨c0, c1', c2, c3, c4⟩ := box_cells HB3.out.c
  go_wp2_with fail
  refine (HC3.out _).mono ?_
  rintro e w4 ⟨rfl, hu4⟩
  have HU4 := Lib.hid (HU3.out.trans hu4)
  have HS4 := Lib.hid (HS3.out.trans hu4)
  have HB4 := Lib.hid (HB3.out.up hu4)
  clear hu4 a0 a1 a2 a3 a4 b0 b1 b2 b3 b4 c0 c1' c2 c3 c4
  obtain ⟨a0, a1, a2, a3, a4⟩ := box_cells HB4.out.a
  obtain ⟨b0, b1, b2, b3, b4⟩ := box_cells HB4.out.b
  obtain ⟨c0, c1', c2, c3, c4⟩ := box_cells HB4.out.c
  go_wp2_with fail
  refine (HC4.out (some ⟨w4.heap.size, 0, none⟩) 2 (w4.alloc (.cells #[.int .i64 1, .int .i64 3, .bool false, .int .i64 0, .int .i64 0, .int .i64 4, .int .i64 (-1), .bool true, .int .i64 0, .int .i64 0] 24)) (oprow_lit w4 [nA, nB] 24)).mono ?_
  rintro e w5 ⟨rfl, hu5'⟩
  have hu5 : Up w4 w5 := ((Up.refl w4).alloc _).trans hu5'
  clear hu5'
  have HU5 := Lib.hid (HU4.out.trans hu5)
  have HS5 := Lib.hid (HS4.out.trans hu5)
  have HB5 := Lib.hid (HB4.out.up hu5)
  clear hu5 a0 a1 a2 a3 a4 b0 b1 b2 b3 b4 c0 c1' c2 c3 c4
  obtain ⟨a0, a1, a2, a3, a4⟩ := box_cells HB5.out.a
  obtain ⟨b0, b1, b2, b3, b4⟩ := box_cells HB5.out.b
  obtain ⟨c0, c1', c2, c3, c4⟩ := box_cells HB5.out.c
  go_wp2_with fail
  refine (HC5.out (some ⟨w5.heap.size, 0, none⟩) 2 (w5.alloc (.cells #[.int .i64 4, .int .i64 (-1), .bool true, .int .i64 0, .int .i64 0, .int .i64 1, .int .i64 3, .bool false, .int .i64 0, .int .i64 0] 24)) (oprow_lit w5 [nB, nA] 24)).mono ?_
  rintro e w6 ⟨rfl, hu6'⟩
  have hu6 : Up w5 w6 := ((Up.refl w5).alloc _).trans hu6'
  clear hu6'
  have HU6 := Lib.hid (HU5.out.trans hu6)
  have HS6 := Lib.hid (HS5.out.trans hu6)
  have HB6 := Lib.hid (HB5.out.up hu6)
  clear hu6 a0 a1 a2 a3 a4 b0 b1 b2 b3 b4 c0 c1' c2 c3 c4
  obtain ⟨a0, a1, a2, a3, a4⟩ := box_cells HB6.out.a
  obtain ⟨b0, b1, b2, b3, b4⟩ := box_cells HB6.out.b
  obtain ⟨c0, c1', c2, c3, c4⟩ := box_cells HB6.out.c
  have HR6 := Lib.hid ((HR1.out.up (show Up w1 w6 from HS6.out)).up ((Up.refl w6).alloc (.cells #[.int .i64 3, .int .i64 5, .bool true, .int .i64 7, .int .i64 0] 24)))
  go_wp2_with fail
  refine (HC6.out A1 (some ⟨w6.heap.size, 0, none⟩) c1 1 (w6.alloc (.cells #[.int .i64 3, .int .i64 5, .bool true, .int .i64 7, .int .i64 0] 24)) HR6.out (oprow_lit w6 [nE] 24)).mono ?_
  rintro e w7 ⟨rfl, hu7'⟩
  have hu7 : Up w6 w7 := ((Up.refl w6).alloc _).trans hu7'
  clear hu7'
  have HU7 := Lib.hid (HU6.out.trans hu7)
  have HB7 := Lib.hid (HB6.out.up hu7)
  clear hu7 a0 a1 a2 a3 a4 b0 b1 b2 b3 b4 c0 c1' c2 c3 c4
  obtain ⟨a0, a1, a2, a3, a4⟩ := box_cells HB7.out.a
  obtain ⟨b0, b1, b2, b3, b4⟩ := box_cells HB7.out.b
  obtain ⟨c0, c1', c2, c3, c4⟩ := box_cells HB7.out.c
  go_wp2_with fail
  refine (HC7.out (some ⟨w7.heap.size, 0, none⟩) 2 (w7.alloc (.cells #[.int .i64 1, .int .i64 3, .bool false, .int .i64 0, .int .i64 0, .int .i64 4, .int .i64 (-1), .bool true, .int .i64 0, .int .i64 0] 24)) (oprow_lit w7 [nA, nB] 24)).mono ?_
  rintro e w8 ⟨v, rfl, ho8, hu8'⟩
  obtain ⟨A8, c8, rfl, hr8⟩ := OwnO.row ho8
  have HU8 := Lib.hid (HU7.out.trans (((Up.refl w7).alloc _).trans hu8'))
  clear hu8' ho8 hr8
  go_wp2_with fail
  go_ret
  exact ⟨rfl, HU8.out⟩

end Go.Proofs.Ytpefcbmmbpcalaa
