/-
  Registers of the kinds 1, 6, 7: Strips, Cells, who may.
-/
import Derived.Test.YtlclijnoablejaaRegA
set_option linter.unusedVariables false
set_option linter.unusedSimpArgs false
namespace Go.Proofs.Ytlclijnoablejaa
open Go.RowKit

set_option maxHeartbeats 1000000 in
theorem pclamp_any (n top : Int) (w : World) : Calls Try.prog 53 #[.int .i64 n, .int .i64 top] w fun e w' => (∃ z, e = .returned (.int .i64 z)) ∧ w' = w := by
  go_enter Try.func53, Try.ntmps53
  go_wp2_with fail
  all_goals
    go_ret
    exact ⟨⟨_, rfl⟩, rfl⟩

set_option maxRecDepth 10000 in
set_option maxHeartbeats 1000000 in
theorem rstrips_any (r : Rg) (w : World) (h : Laid r) : Calls Try.prog 29 #[.agg (rcells r)] w fun e w' => ∃ v l k, e = .returned v ∧ OwnStr w' w.heap.size v l ∧ Sums l k (cellsN r) ∧ k ≤ 1000 ∧ Up w w' := by
  have hb : RegBox (w.alloc (.cells (rcells r) 29)) w.heap.size r := heap_alloc_new w _
  have hu : Up w (w.alloc (.cells (rcells r) 29)) := (Up.refl _).alloc _
  have HU := Lib.hid hu
  obtain ⟨c0, -, -, c3, -, -, c6⟩ := hb.cells
  have HB := Lib.hid (fun W => bstrips_any r.n W h.1)
  have HM := Lib.hid (fun W => mstrips_any r.n W h.1)
  have hq := sqN_le r.n h.1.2
  have hqn : sqN r.n * r.n ≤ 49 * 8 := Nat.mul_le_mul hq h.1.2
  have HQ := Lib.hid (And.intro hq hqn)
  unfold rcells at c0 c3 c6 HU hu ⊢
  clear hb hq hqn
  rcases h.2 with hk | hk | hk
  · have e0 : (cellsN r : Int) = 1 := by unfold cellsN; rw [if_pos hk]; rfl
    rw [hk] at c0 HU c3 c6 hu ⊢
    rw [e0]
    clear hu
    go_enter Try.func29, Try.ntmps29
    go_wp2_with fail
    refine (pclamp_any _ _ _).mono ?_
    rintro e w1 ⟨⟨z, rfl⟩, rfl⟩
    go_wp2_with fail
    generalize hW : w.alloc (.cells #[.int .i64 1, .int .i64 r.base, .int .i64 r.loc, .int .i64 r.n, .int .i64 r.writer, .int .i64 r.reader, .int .i64 r.top] 29) = W at *
    have HX := Lib.hid (heap_alloc_new W (.cells #[.int .i64 1, .int .i64 3, .int .i64 z] 55))
    have HS := Lib.hid (show W.heap.size = w.heap.size + 1 by rw [← hW]; simp)
    rw [show w.heap.size + 1 = W.heap.size from HS.out.symm]
    go_ret
    exact ⟨_, [(1, 3, z)], 1, rfl, ⟨rfl, .inr ⟨W.heap.size, 1, _, rfl, by rw [HS.out]; omega, HX.out, Nat.le_refl _, by decide, rfl, rfl⟩⟩, ⟨rfl, rfl, fun a ha => by simp at ha; subst ha; exact ⟨by show (0 : Int) ≤ 1; decide, by show (1 : Int) ≤ 16; decide⟩⟩, by decide, HU.out.alloc _⟩
  · have e0 : (cellsN r : Int) = 16 * ((sqN r.n : Nat) : Int) := by unfold cellsN; rw [if_neg (by omega), if_pos hk]; omega
    rw [hk] at c0 HU c3 c6 hu ⊢
    rw [e0]
    go_enter Try.func29, Try.ntmps29
    go_wp2_with fail
    refine (HB.out _).mono ?_
    rintro e w1 ⟨v, l, rfl, ho, hs, hu1, -⟩
    have HO := Lib.hid ho
    have HSU := Lib.hid hs
    have HU1 := Lib.hid (HU.out.trans hu1)
    have HSZ := Lib.hid hu.size
    clear ho hs hu1 hu
    go_wp2_with fail
    go_ret
    exact ⟨_, l, _, rfl, ⟨HO.out.1, HO.out.2.imp id fun ⟨g, cap, cur, a1, a2, a3⟩ => ⟨g, cap, cur, a1, Nat.le_trans HSZ.out a2, a3⟩⟩, HSU.out, by have := HQ.out.1; unfold sqN at this; omega, HU1.out⟩
  · have e0 : (cellsN r : Int) = 16 * ((sqN r.n * r.n : Nat) : Int) := by unfold cellsN; rw [if_neg (by omega), if_neg (by omega)]; omega
    rw [hk] at c0 HU c3 c6 hu ⊢
    rw [e0]
    go_enter Try.func29, Try.ntmps29
    go_wp2_with fail
    refine (HM.out _).mono ?_
    rintro e w1 ⟨v, l, rfl, ho, hs, hu1⟩
    have HO := Lib.hid ho
    have HSU := Lib.hid hs
    have HU1 := Lib.hid (HU.out.trans hu1)
    have HSZ := Lib.hid hu.size
    clear ho hs hu1 hu
    go_wp2_with fail
    go_ret
    exact ⟨_, l, _, rfl, ⟨HO.out.1, HO.out.2.imp id fun ⟨g, cap, cur, a1, a2, a3⟩ => ⟨g, cap, cur, a1, Nat.le_trans HSZ.out a2, a3⟩⟩, HSU.out, by have := HQ.out.2; unfold sqN at this; rw [Nat.mul_assoc]; omega, HU1.out⟩

/-- The sum of the first j. -/
def sumT (l : List (Int × Int × Int)) (j : Nat) : Int := ((l.take j).map (·.1)).sum
theorem sumT_succ (l : List (Int × Int × Int)) (j : Nat) (h : j < l.length) : sumT l (j + 1) = sumT l j + (l.getD j (0, 0, 0)).1 := by
  unfold sumT
  rw [List.take_succ_eq_append_getElem h, List.map_append, List.sum_append, List.getD_eq_getElem?_getD, List.getElem?_eq_getElem h]
  simp
theorem sumT_in (l : List (Int × Int × Int)) (k : Nat) (m : Int) (h : Sums l k m) : ∀ j, j ≤ l.length → 0 ≤ sumT l j ∧ sumT l j ≤ 16 * j
  | 0, _ => by simp [sumT]
  | j + 1, hj => by
    have ih := sumT_in l k m h j (by omega)
    rw [sumT_succ l j (by omega)]
    have : 0 ≤ (l.getD j (0, 0, 0)).1 ∧ (l.getD j (0, 0, 0)).1 ≤ 16 := by
      rw [List.getD_eq_getElem?_getD, List.getElem?_eq_getElem (show j < l.length by omega)]
      exact h.few _ (List.getElem_mem _)
    omega
set_option maxRecDepth 10000 in
set_option maxHeartbeats 1000000 in
theorem rcells_any (r : Rg) (w : World) (h : Laid r) : Calls Try.prog 11 #[.agg (rcells r)] w fun e w' => e = .returned (.int .i64 (cellsN r)) ∧ Up w w' := by
  have hb : RegBox (w.alloc (.cells (rcells r) 29)) w.heap.size r := heap_alloc_new w _
  have HU := Lib.hid (show Up w (w.alloc (.cells (rcells r) 29)) from (Up.refl _).alloc _)
  have HST := Lib.hid (fun W => rstrips_any r W h)
  obtain ⟨c0, c1, c2, c3, c4, c5, c6⟩ := hb.cells
  unfold rcells at c0 c1 c2 c3 c4 c5 c6 HU HST ⊢
  clear hb
  go_enter Try.func11, Try.ntmps11
  go_wp2_with fail
  refine (HST.out _).mono ?_
  rintro e w1 ⟨v, l, k, rfl, ho, hs, hk, hu1⟩
  have HU1 := Lib.hid (HU.out.trans hu1)
  have HSU := Lib.hid hs
  have HK := Lib.hid hk
  obtain ⟨A, cc, hv, hrow⟩ : ∃ A cc, v = .slice A l.length cc ∧ ∀ j, j < l.length → ∃ b, A = some ⟨b, 0, none⟩ ∧ w1.cell? ⟨b, j * 3, none⟩ = some (.int .i64 (l.getD j (0, 0, 0)).1) ∧ w1.cell? ⟨b, j * 3 + 1, none⟩ = some (.int .i64 (l.getD j (0, 0, 0)).2.1) ∧ w1.cell? ⟨b, j * 3 + 2, none⟩ = some (.int .i64 (l.getD j (0, 0, 0)).2.2) := by
    rcases ho.2 with ⟨a1, a2⟩ | ⟨g, cap, cur, a1, _⟩
    · exact ⟨none, 0, by rw [a1, a2], fun j hj => by omega⟩
    · refine ⟨_, cap, a1, fun j hj => ⟨g, rfl, ?_⟩⟩
      have ho' := ho
      rw [a1] at ho'
      have c : ∀ q, q < 3 → w1.cell? ⟨g, j * 3 + q, none⟩ = (scell (l.getD j (0, 0, 0)))[q]? := fun q hq => (ho'.cellAt (j * 3 + q) (by omega)).trans (scells_at l j hj q hq)
      exact ⟨c 0 (by decide), c 1 (by decide), c 2 (by decide)⟩
  subst hv
  have HR := Lib.hid hrow
  have HT := Lib.hid (fun j hj => sumT_in l k _ hs j hj)
  have hlk : l.length ≤ 1000 := by rw [hs.len]; exact hk
  have HEND := Lib.hid (show sumT l l.length = (cellsN r : Int) from by unfold sumT; rw [List.take_length]; exact hs.sum)
  clear ho hs hk hu1 hrow c0 c1 c2 c3 c4 c5 c6 HST
  go_wp2_with fail
  go_loopw [3, 9] (fun u v wr => ∃ j : Nat, j ≤ l.length ∧ u = .int .i64 (sumT l j) ∧ v = .int .i64 j ∧ Hid (Up w1 wr)) (fun _ v _ => l.length - (intOf v).toNat)
  case atStart => exact ⟨0, by omega, rfl, rfl, Lib.hid (Up.refl _)⟩
  case round =>
    obtain ⟨j, hj, rfl, rfl, HW⟩ := hrel
    by_cases hlt : j < l.length
    · have hji : (j : Int) < l.length := by omega
      have hj0 : (0 : Int) ≤ j := by omega
      obtain ⟨b, rfl, x0, x1, x2⟩ := HR.out j hlt
      have x0 := (HW.out.cell (p := ⟨b, j * 3, none⟩) (cell_lt x0)).trans x0
      have x1 := (HW.out.cell (p := ⟨b, j * 3 + 1, none⟩) (cell_lt x1)).trans x1
      have x2 := (HW.out.cell (p := ⟨b, j * 3 + 2, none⟩) (cell_lt x2)).trans x2
      have HS1 := Lib.hid (sumT_succ l j hlt)
      have ht1 := HT.out (j + 1) hlt
      rw [HS1.out] at ht1
      have hjw : wrap64 (sumT l j + (l.getD j (0, 0, 0)).1) = sumT l j + (l.getD j (0, 0, 0)).1 := IntWalk.wrap64_in _ (by omega)
      have HWB := Lib.hid (HW.out.trans ((Up.refl wr).alloc (.cells #[.int .i64 (l.getD j (0, 0, 0)).1, .int .i64 (l.getD j (0, 0, 0)).2.1, .int .i64 (l.getD j (0, 0, 0)).2.2] 55)))
      generalize l.getD j (0, 0, 0) = a at *
      obtain ⟨a0, a1, a2⟩ := a
      dsimp only at x0 x1 x2 hjw HWB HS1 ht1
      generalize sumT l j = m at *
      clear ht1
      go_wp2_with fail
      go_roundw
      case rel => exact ⟨j + 1, by omega, by rw [HS1.out, hjw], by go_num, HWB⟩
      case measure => simp [intOf]; omega
    · obtain rfl : j = l.length := by omega
      clear hlt
      go_wp2_with fail
      go_ret
      exact ⟨by rw [HEND.out]; rfl, HU1.out.trans HW.out⟩

end Go.Proofs.Ytlclijnoablejaa
