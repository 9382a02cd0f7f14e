/-
  The bakery: the chapter's example.
-/
import Derived.Test.YtleebaebihbcdaaBakA
import Derived.Deep.OwnRows
set_option linter.unusedVariables false
set_option linter.unusedSimpArgs false
namespace Go.Proofs.Ytleebaebihbcdaa
open Go.RowKit

theorem three_allocC (w : World) (R V E : Array Value) (tr tv te : TypeId) : Up w (((w.alloc (.cells R tr)).alloc (.cells V tv)).alloc (.cells E te)) ∧ (((w.alloc (.cells R tr)).alloc (.cells V tv)).alloc (.cells E te)).heap[w.heap.size]? = some (.cells R tr (0, 0)) ∧
    (((w.alloc (.cells R tr)).alloc (.cells V tv)).alloc (.cells E te)).heap[w.heap.size + 1]? = some (.cells V tv (0, 0)) ∧ (((w.alloc (.cells R tr)).alloc (.cells V tv)).alloc (.cells E te)).heap[w.heap.size + 1 + 1]? = some (.cells E te (0, 0)) ∧ True := by
  have u1 : Up w (w.alloc (.cells R tr)) := (Up.refl w).alloc _
  have u2 : Up (w.alloc (.cells R tr)) ((w.alloc (.cells R tr)).alloc (.cells V tv)) := (Up.refl _).alloc _
  have u3 : Up ((w.alloc (.cells R tr)).alloc (.cells V tv)) (((w.alloc (.cells R tr)).alloc (.cells V tv)).alloc (.cells E te)) := (Up.refl _).alloc _
  have h1 := heap_alloc_new w (.cells R tr)
  have h2 := heap_alloc_new (w.alloc (.cells R tr)) (.cells V tv)
  have h3 := heap_alloc_new ((w.alloc (.cells R tr)).alloc (.cells V tv)) (.cells E te)
  have s1 : (w.alloc (.cells R tr)).heap.size = w.heap.size + 1 := by simp
  have s2 : ((w.alloc (.cells R tr)).alloc (.cells V tv)).heap.size = w.heap.size + 1 + 1 := by simp
  rw [s1] at h2
  rw [s2] at h3
  exact ⟨(u1.trans u2).trans u3, ((u2.trans u3).block _ (by omega)).trans h1, (u3.block _ (by omega)).trans h2, h3, trivial⟩
theorem bstrips_any (w : World) : Calls Try.prog 99 #[.agg #[.int .i64 1, .int .i64 2, .int .i64 0, .int .i64 0, .int .i64 0, .int .i64 3]] w fun e w' => ∃ A, e = .returned (.slice A 2 2) ∧ Up w w' := by
  have hb := heap_alloc_new w (.cells #[.int .i64 1, .int .i64 2, .int .i64 0, .int .i64 0, .int .i64 0, .int .i64 3] 68)
  have c0 := cell_of_row _ _ 0 _ _ _ hb
  have c1 := cell_of_row _ _ 1 _ _ _ hb
  have c2 := cell_of_row _ _ 2 _ _ _ hb
  have c3 := cell_of_row _ _ 3 _ _ _ hb
  have c4 := cell_of_row _ _ 4 _ _ _ hb
  have c5 := cell_of_row _ _ 5 _ _ _ hb
  simp only [List.getElem?_toArray, List.getElem?_cons_zero, List.getElem?_cons_succ] at c0 c1 c2 c3 c4 c5
  have HU := Lib.hid (show Up w (w.alloc (.cells #[.int .i64 1, .int .i64 2, .int .i64 0, .int .i64 0, .int .i64 0, .int .i64 3] 68)) from (Up.refl w).alloc _)
  have HSZ := Lib.hid (fun W => bsizes_any 2 3 1 0 0 0 W (by decide) (by decide))
  clear hb
  go_enter Try.func99, Try.ntmps99
  go_wp2_with fail
  refine (HSZ.out _).mono ?_
  rintro e w2 ⟨rfl, hu2⟩
  have HU2 := Lib.hid (HU.out.trans hu2)
  clear c0 c1 c2 c3 c4 c5 hu2
  go_wp2_with fail
  go_ret
  exact ⟨_, rfl, HU2.out.trans ((Up.refl _).alloc _)⟩
theorem blocals_any (v : Array Value) (w : World) (hv : v.size = 6) : Calls Try.prog 100 #[.agg v] w fun e w' => e = .returned (.int .i64 1) ∧ Up w w' := by
  go_enter Try.func100, Try.ntmps100
  go_wp2_with fail
  go_ret
  exact ⟨rfl, (Up.refl _).alloc _⟩

set_option maxRecDepth 10000 in
set_option maxHeartbeats 1000000 in
theorem alive23_any (w : World) : Calls Try.prog 58 #[] w fun e w' => e = .returned (.bool true) ∧ Up w w' := by
  have HP1 := Lib.hid (fun (W : World) (b : Nat) (A1 : Option Addr) (c1 : Nat) (hr : Row W A1 3 (IVal [0, 0, 0])) (hb : LockBox W b 1 3) =>
    playQ 97 #[.pointer (some ⟨b, 0, none⟩)] (BakR [0, 0, 0] 1 0 3) [] [0, 0, 0] none A1 0 c1 W (fun _ => rfl) (by decide) (by decide) (Row.nil _ _ _) hr (by decide) (fun args W => bEnters Try.func97 (by kernel_rfl) rfl args W)
      (fun W' g B hu _ h => bcl_97 [0, 0, 0] 1 0 3 b g B W' rfl (by decide) (by decide) (by decide) (by intro x hx; simp at hx; omega) (by decide) ((hu.block b (Array.getElem?_eq_some_iff.1 hb).1).trans hb) h))
  have HP2 := Lib.hid (fun (W : World) (b : Nat) (A1 : Option Addr) (c1 : Nat) (hr : Row W A1 3 (IVal [0, 3, 0])) (hb : LockBox W b 2 3) =>
    playQ 98 #[.pointer (some ⟨b, 0, none⟩)] (BakR [0, 3, 0] 2 1 3) [] [0, 3, 0] none A1 0 c1 W (fun _ => rfl) (by decide) (by decide) (Row.nil _ _ _) hr (by decide) (fun args W => bEnters Try.func98 (by kernel_rfl) rfl args W)
      (fun W' g B hu _ h => bcl_98 [0, 3, 0] 2 1 3 b g B W' rfl (by decide) (by decide) (by decide) (by intro x hx; simp at hx; omega) (by decide) ((hu.block b (Array.getElem?_eq_some_iff.1 hb).1).trans hb) h))
  have HST := Lib.hid bstrips_any
  have HLO := Lib.hid (fun W => blocals_any #[.int .i64 1, .int .i64 2, .int .i64 0, .int .i64 0, .int .i64 0, .int .i64 3] W rfl)
  have hmk : ∀ W : World, (Instr.makeSlice 23 (.int .i64 3) (.int .i64 3)).run Try.prog W = .ok (.slice (some ⟨W.heap.size, 0, none⟩) 3 3) (W.alloc (.cells (madeCells #[.int .i64 0] 3) 3)) := fun W =>
    run_make_row' 23 3 (.int .i64 0) 8 Try.underlying23 infoInt rfl .i64 .i64 3 (by omega) (by omega) W
  obtain ⟨W0, hW0⟩ : ∃ x, w.alloc (.cells #[.int .i64 1, .int .i64 1, .int .i64 0, .int .i64 0, .int .i64 0, .int .i64 3] 68) = x := ⟨_, rfl⟩
  have hb0 : LockBox W0 w.heap.size 1 3 := by rw [← hW0]; exact heap_alloc_new w _
  have hu0 : Up w W0 := by rw [← hW0]; exact (Up.refl w).alloc _
  have hs0 : W0.heap.size = w.heap.size + 1 := by rw [← hW0]; simp
  have hr0 : Row (W0.alloc (.cells (madeCells #[.int .i64 0] 3) 3)) (some ⟨W0.heap.size, 0, none⟩) 3 (IVal [0, 0, 0]) := (made_row W0 (.int .i64 0) 3 3).congr fun k hk => by
    have : k = 0 ∨ k = 1 ∨ k = 2 := by omega
    rcases this with rfl | rfl | rfl <;> rfl
  have HW0 := Lib.hid hW0
  have HS0 := Lib.hid hs0
  have HU0 := Lib.hid hu0
  have HQ1 := Lib.hid (HP1.out _ w.heap.size _ 3 hr0 ((((Up.refl W0).alloc (.cells (madeCells #[.int .i64 0] 3) 3)).block _ (by omega)).trans hb0))
  clear hW0 hb0 hu0 hs0 hr0 HP1
  go_enter Try.func58, Try.ntmps58
  go_wp2_with fail
  rw [HW0.out, ← HS0.out]
  refine HQ1.out.mono ?_
  rintro e w1 ⟨⟨ro, s1⟩, ov, hR, rfl, ⟨A, c, N, d, L, e', rfl, r1, r2, r3, _⟩, hU⟩
  have hv : ro = some 0 ∧ s1.acc.length = 3 ∧ s1.nts.length = 3 := by
    rcases hR with ⟨_, _, h⟩ | ⟨_, _, _, _, h⟩
    · exact absurd h (by decide)
    · exact h rfl
  obtain ⟨rfl, h2, h3⟩ := hv
  simp only [Option.getD_some, Option.isSome_some, h2, h3]
  have HU1 := Lib.hid ((HU0.out.trans ((Up.refl _).alloc _)).trans hU)
  clear hR r1 r2 r3 h2 h3 hU HQ1 HU0 HS0 HW0 hmk
  go_wp2_with fail
  obtain ⟨hu3, hb1, hb2, hb3, -⟩ := three_allocC w1 #[.bool true, .slice A 3 c, .slice N 3 d, .slice L (shortL s1.loc).length e'] #[.int .i64 1, .int .i64 2, .int .i64 0, .int .i64 0, .int .i64 0, .int .i64 3] #[.int .i64 0, .int .i64 3, .int .i64 0] 29 68 3
  generalize ((w1.alloc (.cells #[.bool true, .slice A 3 c, .slice N 3 d, .slice L (shortL s1.loc).length e'] 29)).alloc (.cells #[.int .i64 1, .int .i64 2, .int .i64 0, .int .i64 0, .int .i64 0, .int .i64 3] 68)).alloc (.cells #[.int .i64 0, .int .i64 3, .int .i64 0] 3) = W3 at *
  have hrow : Row W3 (some ⟨w1.heap.size + 1 + 1, 0, none⟩) 3 (IVal [0, 3, 0]) := fun k hk => ⟨_, _, rfl, by
    rw [cell_of_row _ _ _ _ _ _ hb3]
    have : k = 0 ∨ k = 1 ∨ k = 2 := by omega
    rcases this with rfl | rfl | rfl <;> rfl⟩
  refine (HP2.out W3 (w1.heap.size + 1) _ 3 hrow hb2).mono ?_
  rintro e w4 ⟨⟨ro, s4⟩, ov, hR, rfl, ⟨A', c', N', d', L', e2, rfl, r1, r2, r3, _⟩, hU⟩
  have hv : ro = some 11 ∧ s4.nts = [(1, 0), (4, 3)] := by
    rcases hR with ⟨h1, h2, _⟩ | ⟨h, _⟩
    · exact ⟨h1, h2⟩
    · exact absurd h (by decide)
  obtain ⟨rfl, h2⟩ := hv
  have hnl : s4.nts.length = 2 := by rw [h2]; rfl
  obtain ⟨nb, no, rfl, n0, n1⟩ := r2 1 (by rw [hnl]; decide)
  rw [h2] at n0 n1
  simp only [Option.getD_some, Option.isSome_some, hnl]
  have HU4 := Lib.hid (HU1.out.trans (hu3.trans hU))
  have hb1' := (hU.block _ (Array.getElem?_eq_some_iff.1 hb1).1).trans hb1
  have hb2' := (hU.block _ (Array.getElem?_eq_some_iff.1 hb2).1).trans hb2
  have HB := Lib.hid (And.intro hb1' hb2')
  have HN := Lib.hid (And.intro n0 n1)
  have hX := heap_alloc_new w4 (.cells #[.bool true, .slice A' s4.acc.length c', .slice (some ⟨nb, no, none⟩) 2 d', .slice L' (shortL s4.loc).length e2] 29)
  have hXU : Up w4 (w4.alloc (.cells #[.bool true, .slice A' s4.acc.length c', .slice (some ⟨nb, no, none⟩) 2 d', .slice L' (shortL s4.loc).length e2] 29)) := (Up.refl _).alloc _
  have HX := Lib.hid hX
  have HXU := Lib.hid hXU
  clear hR r1 r2 r3 h2 hnl hU hb1 hb2 hb3 hu3 hrow n0 n1 hb1' hb2' hX hXU HP2 HU1
  generalize hw5 : w4.alloc (.cells #[.bool true, .slice A' s4.acc.length c', .slice (some ⟨nb, no, none⟩) 2 d', .slice L' (shortL s4.loc).length e2] 29) = w5 at *
  have a1 := (HXU.out.block _ (Array.getElem?_eq_some_iff.1 HB.out.1).1).trans HB.out.1
  have a2 := (HXU.out.block _ (Array.getElem?_eq_some_iff.1 HB.out.2).1).trans HB.out.2
  have HA2 := Lib.hid a2
  have p0 := cell_of_row _ _ 0 _ _ _ a1
  have p1 := cell_of_row _ _ 1 _ _ _ a1
  have p2 := cell_of_row _ _ 2 _ _ _ a1
  have q0 := cell_of_row _ _ 0 _ _ _ a2
  have q1 := cell_of_row _ _ 1 _ _ _ a2
  have q2 := cell_of_row _ _ 2 _ _ _ a2
  have q3 := cell_of_row _ _ 3 _ _ _ a2
  have q4 := cell_of_row _ _ 4 _ _ _ a2
  have q5 := cell_of_row _ _ 5 _ _ _ a2
  have x0 := cell_of_row _ _ 0 _ _ _ HX.out
  have x2 := cell_of_row _ _ 2 _ _ _ HX.out
  have m0 := (HXU.out.cell (p := ⟨nb, no + 1 * 2, none⟩) (cell_lt HN.out.1)).trans HN.out.1
  have m1 := (HXU.out.cell (p := ⟨nb, no + 1 * 2 + 1, none⟩) (cell_lt HN.out.2)).trans HN.out.2
  simp only [List.getElem?_toArray, List.getElem?_cons_zero, List.getElem?_cons_succ] at p0 p1 p2 q0 q1 q2 q3 q4 q5 x0 x2
  simp only [List.getD_cons_succ, List.getD_cons_zero, Nat.one_mul] at m0 m1
  clear a1 a2
  go_wp2_with fail
  refine (HST.out _).mono ?_
  rintro e w6 ⟨A6, rfl, hu6⟩
  have a2 := (hu6.block _ (Array.getElem?_eq_some_iff.1 HA2.out).1).trans HA2.out
  have HU6 := Lib.hid ((HU4.out.trans HXU.out).trans hu6)
  clear p0 p1 p2 q0 q1 q2 q3 q4 q5 x0 x2 m0 m1 hu6 HST
  have q0 := cell_of_row _ _ 0 _ _ _ a2
  have q1 := cell_of_row _ _ 1 _ _ _ a2
  have q2 := cell_of_row _ _ 2 _ _ _ a2
  have q3 := cell_of_row _ _ 3 _ _ _ a2
  have q4 := cell_of_row _ _ 4 _ _ _ a2
  have q5 := cell_of_row _ _ 5 _ _ _ a2
  simp only [List.getElem?_toArray, List.getElem?_cons_zero, List.getElem?_cons_succ] at q0 q1 q2 q3 q4 q5
  clear a2
  go_wp2_with fail
  refine (HLO.out _).mono ?_
  rintro e w7 ⟨rfl, hu7⟩
  have HU7 := Lib.hid (HU6.out.trans hu7)
  clear q0 q1 q2 q3 q4 q5 hu7 HLO
  go_wp2_with fail
  go_ret
  exact ⟨rfl, HU7.out⟩

end Go.Proofs.Ytleebaebihbcdaa
