/-
  The document's bank: Begin.
-/
import Derived.Test.YtpapcheliohacaaDocN
import Derived.Test.YtpapcheliohacaaDocA
import Derived.Deep.RegionLaw
import Derived.Deep.DeepCutAuto
set_option linter.unusedVariables false
set_option linter.unusedSimpArgs false
namespace Go.Proofs.Ytpapcheliohacaa
open Go.RowKit

/-- The cells of At's answer. -/
def atC : Option SD → List Value
  | none => [.int .i64 0, .int .i64 0, .int .i64 0]
  | some s => [.int .i64 1, .int .i64 s.kind, .int .i64 s.top]
theorem infoPtr : (Try.prog.info? 26).map (fun i => (i.zero, i.size, i.bytes)) = some (some (.pointer none), 1, 8) := by kernel_rfl
theorem info_partsP : ∃ i, Try.prog.info? 26 = some i ∧ i.zero = some (.pointer none) ∧ i.size = 1 ∧ i.bytes = 8 := by
  have h := infoPtr
  cases hi : Try.prog.info? 26 with
  | none => rw [hi] at h; cases h
  | some i =>
    rw [hi] at h
    simp only [Option.map_some, Option.some.injEq, Prod.mk.injEq] at h
    exact ⟨i, rfl, h.1, h.2.1, h.2.2⟩
/-- Ahead of the cell's own Begin: the cell is there, at place j. -/
def AtD (w w5 : World) (B r K : Nat) (Ls : Value) (ds1 : BDl) (X : Nat → Prop) (k cl v : Int) (j : Nat) : Prop :=
  ∃ Nv Cv gl X5, DocO w5 B r Ls Nv Cv ds1 gl ∧ DCells w5 B r Nv Cv ds1 gl X5 ∧ DX X5 r Nv Cv ∧ Fr w w5 X ∧ (∀ x, X5 x → XG X w w5 x) ∧ w5.heap[w.heap.size]? = some (.cells #[.int .i64 k, .int .i64 cl, .int .i64 v] 31) ∧ Few ds1 (K + 1) ∧ ((ds1.getD j d0).2.L.length ≤ K ∧ (ds1.getD j d0).2.now ≤ K) ∧ j < ds1.length ∧ placeZ ds1 cl 0 = (j : Int) ∧ ¬ X5 w.heap.size

set_option maxRecDepth 10000 in
set_option maxHeartbeats 4000000 in
theorem rbeginB_any (l : List SD) (A : Option Addr) (c : Nat) (B r KK : Nat) (ds : BDl) (X : Nat → Prop) (t k cl v : Int) (w : World) (hfit : Fit l) (hr : StripRow w A l) (H : DocM w B r (.slice A l.length c) ds KK X) (hKK : KK ≤ 900) :
    Calls Try.prog 23 #[.pointer (some ⟨r, 0, none⟩), .int .i64 t, .agg #[.int .i64 k, .int .i64 cl, .int .i64 v]] w fun e w' => e = .returned (.int .i64 (docBegin l ds t k cl v).1) ∧ DocM w' B r (.slice A l.length c) (docBegin l ds t k cl v).2 (KK + 1) (XG X w w') ∧ Fr w w' X := by
  have HM := Lib.hid H
  obtain ⟨Nv, Cv, gl, h1, h2, h3, h4, h5⟩ := H
  have HB := Lib.hid (show B ≤ w.heap.size from by have := h4 _ h3.1; omega)
  have HKP : Hid (∀ w2, Up w w2 → DocM w2 B r (.slice A l.length c) ds (KK + 1) (XG X w w2) ∧ Fr w w2 X) := Lib.hid (fun w2 u => ⟨(HM.out.up u).more (by omega) (fun k hk => .inl hk) (XG.ge HM.out.lt u.size HB.out), Fr.ofUp u⟩)
  have hUb : Up w (w.alloc (.cells #[.int .i64 k, .int .i64 cl, .int .i64 v] 31)) := (Up.refl w).alloc _
  have hbx := heap_alloc_new w (.cells #[.int .i64 k, .int .i64 cl, .int .i64 v] 31)
  have hws : (w.alloc (.cells #[.int .i64 k, .int .i64 cl, .int .i64 v] 31)).heap.size = w.heap.size + 1 := by simp
  obtain ⟨W, hW⟩ : ∃ x, w.alloc (.cells #[.int .i64 k, .int .i64 cl, .int .i64 v] 31) = x := ⟨_, rfl⟩
  rw [hW] at hUb hbx hws
  have HW := Lib.hid hW
  have HU := Lib.hid hUb
  have HBX := Lib.hid hbx
  have HWS := Lib.hid hws
  obtain ⟨q0, q1, q2, hqv, hqc⟩ : ∃ q0 q1 q2 : Int, atV (atf l cl) = .agg #[.int .i64 q0, .int .i64 q1, .int .i64 q2] ∧ atC (atf l cl) = [.int .i64 q0, .int .i64 q1, .int .i64 q2] := by
    cases atf l cl with
    | none => exact ⟨0, 0, 0, rfl, rfl⟩
    | some s => exact ⟨1, s.kind, s.top, rfl, rfl⟩
  have HAT := Lib.hid (fun W2 (u : Up W.drew W2) => rat_any l A c cl W2 hfit (hr.up ((hUb.trans (Up.refl W).drew).trans u)))
  rw [hqv] at HAT
  have HQC := Lib.hid hqc
  have hSS : W.drew.cell? ⟨r, 0, none⟩ = some (.slice A l.length c) ∧ W.drew.cell? ⟨w.heap.size, 1, none⟩ = some (.int .i64 cl) := ⟨(hUb.cell (p := ⟨r, 0, none⟩) h1.lt).trans h1.k0, cell_of_row _ _ 1 _ _ _ hbx⟩
  have HSS := Lib.hid hSS
  clear hW hUb hbx hr hqv hqc hws
  have H1 := Lib.hid h1
  have H2 := Lib.hid h2
  have H3 := Lib.hid (show DX X r Nv Cv from h3)
  have H4 := Lib.hid h4
  have H5 := Lib.hid h5
  clear h1 h2 h3 h4 h5
  go_enter Try.func23, Try.ntmps23
  go_upto_region 1 with fail
  rw [HW.out]
  go_cut [7, 8] (fun p q wx => ∃ zb : Nat, p = .pointer (some ⟨zb, 0, none⟩) ∧ q = .bool (atf l cl).isSome ∧ Hid (wx.heap[zb]? = some (.cells (atC (atf l cl)).toArray 63) ∧ Up w wx ∧ wx.heap[w.heap.size]? = some (.cells #[.int .i64 k, .int .i64 cl, .int .i64 v] 31) ∧ w.heap.size < zb))
  case first =>
    refine wp_region_held_drew (S := fun w' => w'.cell? ⟨r, 0, none⟩ = some (.slice A l.length c) ∧ w'.cell? ⟨w.heap.size, 1, none⟩ = some (.int .i64 cl)) (by kernel_rfl) hSS (fun hS0 => ?_)
    clear hSS
    refine wpAnyH_take (i := 0) (v := ?_) rfl (by kernel_rfl) (by kernel_rfl) (by kernel_rfl) (fun _ _ _ h => h) (Or.inl ⟨by kernel_rfl, ?_⟩) hS0 ?_
    rotate_left
    · intro w hSw
      try dsimp only at hSw
      go_simp
      try (with_reducible rfl)
    try simp only [Act.put, List.setIfInBounds_toArray, List.set_cons_zero, List.set_cons_succ]
    refine wpAnyH_take (i := 1) (v := ?_) rfl (by kernel_rfl) (by kernel_rfl) (by kernel_rfl) (fun _ _ _ h => h) (Or.inl ⟨by kernel_rfl, ?_⟩) hS0 ?_
    rotate_left
    · intro w hSw
      try dsimp only at hSw
      go_simp
      try (with_reducible rfl)
    try simp only [Act.put, List.setIfInBounds_toArray, List.set_cons_zero, List.set_cons_succ]
    refine wpAnyH_take (i := 2) (v := ?_) rfl (by kernel_rfl) (by kernel_rfl) (by kernel_rfl) (fun _ _ _ h => h) (Or.inl ⟨by kernel_rfl, ?_⟩) hS0 ?_
    rotate_left
    · intro w hSw
      try dsimp only at hSw
      go_simp
      try (with_reducible rfl)
    try simp only [Act.put, List.setIfInBounds_toArray, List.set_cons_zero, List.set_cons_succ]
    refine wpAnyH_take (i := 3) (v := ?_) rfl (by kernel_rfl) (by kernel_rfl) (by kernel_rfl) (fun _ _ _ h => h) (Or.inl ⟨by kernel_rfl, ?_⟩) hS0 ?_
    rotate_left
    · intro w hSw
      try dsimp only at hSw
      go_simp
      try (with_reducible rfl)
    try simp only [Act.put, List.setIfInBounds_toArray, List.set_cons_zero, List.set_cons_succ]
    refine wpAnyH_take (i := 4) (v := ?_) rfl (by kernel_rfl) (by kernel_rfl) (by kernel_rfl) (fun _ _ _ h => h) (Or.inl ⟨by kernel_rfl, ?_⟩) hS0 ?_
    rotate_left
    · intro w hSw
      try dsimp only at hSw
      go_simp
      try (with_reducible rfl)
    try simp only [Act.put, List.setIfInBounds_toArray, List.set_cons_zero, List.set_cons_succ]
    refine wpAnyH_take (i := 5) (v := ?_) rfl (by kernel_rfl) (by kernel_rfl) (by kernel_rfl) (fun _ _ _ h => h) (Or.inl ⟨by kernel_rfl, ?_⟩) hS0 ?_
    rotate_left
    · intro w hSw
      try dsimp only at hSw
      go_simp
      try (with_reducible rfl)
    try simp only [Act.put, List.setIfInBounds_toArray, List.set_cons_zero, List.set_cons_succ]
    refine wpAnyH_ready (rs := [6, 10]) (by kernel_rfl) (by simp) ?_
    refine AllReadyH.cons rfl (fun K hK => ?_) (AllReadyH.cons rfl (fun K hK => ?_) AllReadyH.nil)
    · go_simp
      refine (HAT.out _ (Up.refl _)).mono ?_
      rintro e w1 ⟨rfl, hu1⟩
      have hS1' := And.intro ((hu1.cell (cell_lt hS0.1)).trans hS0.1) ((hu1.cell (cell_lt hS0.2)).trans hS0.2)
      refine hK.out _ _ hS1' (fun hS1 => ?_)
      clear hK K
      try simp only [Act.put, List.setIfInBounds_toArray, List.set_cons_zero, List.set_cons_succ]
      refine wpAnyH_take (i := 7) (v := ?_) rfl (by kernel_rfl) (by kernel_rfl) (by kernel_rfl) (fun _ _ _ h => h) (Or.inl ⟨by kernel_rfl, ?_⟩) hS1 ?_
      rotate_left
      · intro w hSw
        try dsimp only at hSw
        go_simp
        try (with_reducible rfl)
      try simp only [Act.put, List.setIfInBounds_toArray, List.set_cons_zero, List.set_cons_succ]
      refine wpAnyH_take (i := 8) (v := ?_) rfl (by kernel_rfl) (by kernel_rfl) (by kernel_rfl) (fun _ _ _ h => h) (Or.inl ⟨by kernel_rfl, ?_⟩) hS1 ?_
      rotate_left
      · intro w hSw
        try dsimp only at hSw
        go_simp
        try (with_reducible rfl)
      try simp only [Act.put, List.setIfInBounds_toArray, List.set_cons_zero, List.set_cons_succ]
      refine wpAnyH_take (i := 9) (v := ?_) rfl (by kernel_rfl) (by kernel_rfl) (by kernel_rfl) (fun _ _ _ h => h) (Or.inl ⟨by kernel_rfl, ?_⟩) hS1 ?_
      rotate_left
      · intro w hSw
        try dsimp only at hSw
        go_simp
        try (with_reducible rfl)
      try simp only [Act.put, List.setIfInBounds_toArray, List.set_cons_zero, List.set_cons_succ]
      refine wpAnyH_ready (rs := [10]) (by kernel_rfl) (by simp) ?_
      refine AllReadyH.cons rfl (fun K hK => ?_) AllReadyH.nil
      go_simp
      have hu2 : Up w1 (w1.alloc (.cells #[.int .i64 0, .int .i64 0, .int .i64 0] 63)) := (Up.refl w1).alloc _
      refine hK.out _ _ (And.intro ((hu2.cell (cell_lt hS1.1)).trans hS1.1) ((hu2.cell (cell_lt hS1.2)).trans hS1.2)) (fun hS2 => ?_)
      clear hK K
      try simp only [Act.put, List.setIfInBounds_toArray, List.set_cons_zero, List.set_cons_succ]
      refine wpAnyH_ready (rs := [11]) (by kernel_rfl) (by simp) ?_
      refine AllReadyH.cons rfl (fun K hK => ?_) AllReadyH.nil
      go_simp
      have hu3 : Up w1 (w1.alloc (.cells #[.int .i64 q0, .int .i64 q1, .int .i64 q2] 63)) := (Up.refl w1).alloc _
      have HE := Lib.hid (And.intro (heap_alloc_new w1 (.cells #[.int .i64 q0, .int .i64 q1, .int .i64 q2] 63)) (And.intro (HU.out.trans ((Up.refl W).drew.trans (hu1.trans hu3))) (And.intro ((hu3.block w.heap.size (by have := (hu1.block w.heap.size (Array.getElem?_eq_some_iff.1 HBX.out).1).trans (show W.drew.heap[w.heap.size]? = _ from HBX.out); exact (Array.getElem?_eq_some_iff.1 this).1)).trans ((hu1.block w.heap.size (Array.getElem?_eq_some_iff.1 HBX.out).1).trans (show W.drew.heap[w.heap.size]? = _ from HBX.out))) (show w.heap.size < w1.heap.size by have h1 : W.heap.size ≤ w1.heap.size := hu1.size; have h2 := HWS.out; omega))))
      refine hK.out _ _ (And.intro ((hu3.cell (cell_lt hS1.1)).trans hS1.1) ((hu3.cell (cell_lt hS1.2)).trans hS1.2)) (fun hS3 => ?_)
      clear hK K
      try simp only [Act.put, List.setIfInBounds_toArray, List.set_cons_zero, List.set_cons_succ]
      refine wpAnyH_take (i := 12) (v := ?_) rfl (by kernel_rfl) (by kernel_rfl) (by kernel_rfl) (fun _ _ _ h => h) (Or.inl ⟨by kernel_rfl, ?_⟩) hS3 ?_
      rotate_left
      · intro w hSw
        try dsimp only at hSw
        go_simp
        try (with_reducible rfl)
      try simp only [Act.put, List.setIfInBounds_toArray, List.set_cons_zero, List.set_cons_succ]
      refine wpAnyH_done (by kernel_rfl) ?_ _
      try simp only [Act.put, List.setIfInBounds_toArray, List.set_cons_zero, List.set_cons_succ, List.getElem_toArray, List.getElem_cons_succ, List.getElem_cons_zero]
      go_wp2_with fail
      go_meet
      exact ⟨_, rfl, rfl, Lib.hid ⟨by rw [HQC.out]; exact HE.out.1, HE.out.2⟩⟩
    · go_simp
      have hu2 : Up W.drew (W.alloc (.cells #[.int .i64 0, .int .i64 0, .int .i64 0] 63)).drew := ((Up.refl W.drew).alloc (.cells #[.int .i64 0, .int .i64 0, .int .i64 0] 63))
      have hzb : (W.alloc (.cells #[.int .i64 0, .int .i64 0, .int .i64 0] 63)).drew.heap[W.heap.size]? = some (.cells #[.int .i64 0, .int .i64 0, .int .i64 0] 63) := heap_alloc_new W (.cells #[.int .i64 0, .int .i64 0, .int .i64 0] 63)
      refine hK.out _ _ (And.intro ((hu2.cell (cell_lt hS0.1)).trans hS0.1) ((hu2.cell (cell_lt hS0.2)).trans hS0.2)) (fun hS1 => ?_)
      clear hK K
      try simp only [Act.put, List.setIfInBounds_toArray, List.set_cons_zero, List.set_cons_succ]
      refine wpAnyH_ready (rs := [6]) (by kernel_rfl) (by simp) ?_
      refine AllReadyH.cons rfl (fun K hK => ?_) AllReadyH.nil
      go_simp
      refine (HAT.out _ hu2).mono ?_
      rintro e w1 ⟨rfl, hu1⟩
      have hb1 := (hu1.block W.heap.size (Array.getElem?_eq_some_iff.1 hzb).1).trans hzb
      have hba := (hu1.block w.heap.size (by have := hu2.size; have h0 := (Array.getElem?_eq_some_iff.1 HBX.out).1; exact Nat.lt_of_lt_of_le h0 this)).trans ((hu2.block w.heap.size (Array.getElem?_eq_some_iff.1 HBX.out).1).trans (show W.drew.heap[w.heap.size]? = _ from HBX.out))
      have HWZ := Lib.hid (show W.heap.size ≠ r ∧ W.heap.size ≠ w.heap.size from ⟨by have := H1.out.lt; have := HWS.out; omega, by have := HWS.out; omega⟩)
      have HUW := Lib.hid (HU.out.trans ((Up.refl W).drew.trans (hu2.trans hu1)))
      have HWL := Lib.hid (show w.heap.size ≤ W.heap.size from HU.out.size)
      refine hK.out _ _ (And.intro ((hu1.cell (cell_lt hS1.1)).trans hS1.1) ((hu1.cell (cell_lt hS1.2)).trans hS1.2)) (fun hS2 => ?_)
      clear hK K
      try simp only [Act.put, List.setIfInBounds_toArray, List.set_cons_zero, List.set_cons_succ]
      refine wpAnyH_take (i := 7) (v := ?_) rfl (by kernel_rfl) (by kernel_rfl) (by kernel_rfl) (fun _ _ _ h => h) (Or.inl ⟨by kernel_rfl, ?_⟩) hS2 ?_
      rotate_left
      · intro w hSw
        try dsimp only at hSw
        go_simp
        try (with_reducible rfl)
      try simp only [Act.put, List.setIfInBounds_toArray, List.set_cons_zero, List.set_cons_succ]
      refine wpAnyH_take (i := 8) (v := ?_) rfl (by kernel_rfl) (by kernel_rfl) (by kernel_rfl) (fun _ _ _ h => h) (Or.inl ⟨by kernel_rfl, ?_⟩) hS2 ?_
      rotate_left
      · intro w hSw
        try dsimp only at hSw
        go_simp
        try (with_reducible rfl)
      try simp only [Act.put, List.setIfInBounds_toArray, List.set_cons_zero, List.set_cons_succ]
      refine wpAnyH_take (i := 9) (v := ?_) rfl (by kernel_rfl) (by kernel_rfl) (by kernel_rfl) (fun _ _ _ h => h) (Or.inl ⟨by kernel_rfl, ?_⟩) hS2 ?_
      rotate_left
      · intro w hSw
        try dsimp only at hSw
        go_simp
        try (with_reducible rfl)
      try simp only [Act.put, List.setIfInBounds_toArray, List.set_cons_zero, List.set_cons_succ]
      obtain ⟨zb, hzbe⟩ : ∃ zb, W.heap.size = zb := ⟨_, rfl⟩
      rw [hzbe] at hb1 HWZ HWL HWS ⊢
      have z0 := cell_of_row _ _ 0 _ _ _ hb1
      have z1 := cell_of_row _ _ 1 _ _ _ hb1
      have z2 := cell_of_row _ _ 2 _ _ _ hb1
      simp only [List.getElem?_toArray, List.getElem?_cons_zero, List.getElem?_cons_succ] at z0 z1 z2
      have k0 := frozen_of_row _ _ 0 _ _ hb1
      have k1 := frozen_of_row _ _ 1 _ _ hb1
      have k2 := frozen_of_row _ _ 2 _ _ hb1
      have HOT := Lib.hid (show ∀ (b : Nat) (a0 a1 a2 : Value), b ≠ zb → (((w1.setCell ⟨zb, 0, none⟩ a0).setCell ⟨zb, 1, none⟩ a1).setCell ⟨zb, 2, none⟩ a2).heap[b]? = w1.heap[b]? from fun b a0 a1 a2 hb =>
        (Below.heap_setCell ((w1.setCell ⟨zb, 0, none⟩ a0).setCell ⟨zb, 1, none⟩ a1) ⟨zb, 2, none⟩ a2 b hb).trans ((Below.heap_setCell (w1.setCell ⟨zb, 0, none⟩ a0) ⟨zb, 1, none⟩ a1 b hb).trans (Below.heap_setCell w1 ⟨zb, 0, none⟩ a0 b hb)))
      have HE := Lib.hid (And.intro (cells_setCellD (cells_setCellD (cells_setCellD hb1 0 (.int .i64 q0)) 1 (.int .i64 q1)) 2 (.int .i64 q2)) (And.intro (show Up w (((w1.setCell ⟨zb, 0, none⟩ (.int .i64 q0)).setCell ⟨zb, 1, none⟩ (.int .i64 q1)).setCell ⟨zb, 2, none⟩ (.int .i64 q2)) from ((Below.setCell (p := ⟨zb, 0, none⟩) HUW.out HWL.out _).setCell (p := ⟨zb, 1, none⟩) HWL.out _).setCell (p := ⟨zb, 2, none⟩) HWL.out _)
        (And.intro ((HOT.out w.heap.size (.int .i64 q0) (.int .i64 q1) (.int .i64 q2) (fun e => HWZ.out.2 e.symm)).trans hba) (show w.heap.size < zb by have := HWS.out; omega))))
      clear hb1 hba hzb hu1 hu2 hzbe
      refine wpAnyH_ready (rs := [11]) (by kernel_rfl) (by simp) ?_
      refine AllReadyH.cons rfl (fun K hK => ?_) AllReadyH.nil
      go_simp
      refine hK.out _ _ (And.intro ((cellE (HOT.out r _ _ _ (fun e => HWZ.out.1 e.symm))).trans hS2.1) ((cellE (HOT.out w.heap.size _ _ _ (fun e => HWZ.out.2 e.symm))).trans hS2.2)) (fun hS3 => ?_)
      clear hK K
      try simp only [Act.put, List.setIfInBounds_toArray, List.set_cons_zero, List.set_cons_succ]
      refine wpAnyH_take (i := 12) (v := ?_) rfl (by kernel_rfl) (by kernel_rfl) (by kernel_rfl) (fun _ _ _ h => h) (Or.inl ⟨by kernel_rfl, ?_⟩) hS3 ?_
      rotate_left
      · intro w hSw
        try dsimp only at hSw
        go_simp
        try (with_reducible rfl)
      try simp only [Act.put, List.setIfInBounds_toArray, List.set_cons_zero, List.set_cons_succ]
      refine wpAnyH_done (by kernel_rfl) ?_ _
      try simp only [Act.put, List.setIfInBounds_toArray, List.set_cons_zero, List.set_cons_succ, List.getElem_toArray, List.getElem_cons_succ, List.getElem_cons_zero]
      clear z0 z1 z2 k0 k1 k2
      go_wp2_with fail
      go_meet
      exact ⟨zb, rfl, rfl, Lib.hid ⟨by rw [HQC.out]; exact HE.out.1, HE.out.2⟩⟩
  case rest =>
    obtain ⟨zb, rfl, rfl, HC⟩ := hcut
    have HKC := Lib.hid (HKP.out wc HC.out.2.1)
    have HO := Lib.hid (H1.out.keep (HC.out.2.1.block r H1.out.lt) (fun k e => HC.out.2.1.block k (H1.out.own1.lt k e).2) (fun k e => HC.out.2.1.block k (H1.out.own2.lt k e).2))
    have HD := Lib.hid (H2.out.keep (fun j hj k h => HC.out.2.1.block k ((H2.out.cell j hj).ft_lt h).2))
    have HBU := Lib.hid (rbusyB_any B r KK _ Nv Cv ds gl X t wc HO.out HD.out H5.out (by omega))
    have HPL := Lib.hid (place_any B r _ Nv Cv ds gl cl wc HO.out (by have := H5.out.1; omega))
    have b0 := cell_of_row _ _ 0 _ _ _ HC.out.2.2.1
    have b1 := cell_of_row _ _ 1 _ _ _ HC.out.2.2.1
    simp only [List.getElem?_toArray, List.getElem?_cons_zero, List.getElem?_cons_succ] at b0 b1
    have HDB : Hid (docBegin l ds t k cl v = match atf l cl with
      | none => (6, ds)
      | some s => if (0 ≤ t ∧ t < 8) ∧ 0 ≤ busyZ ds t then (12, ds) else if t < 0 ∨ 7 < t ∨ k < 1 ∨ 2 < k then (1, ds)
        else ((((docAdd ds cl s).getD (placeZ (docAdd ds cl s) cl 0).toNat d0).2.begin t k cl v).1,
          docTurn (docAdd ds cl s) (placeZ (docAdd ds cl s) cl 0).toNat (((docAdd ds cl s).getD (placeZ (docAdd ds cl s) cl 0).toNat d0).2.begin t k cl v).2)) := Lib.hid rfl
    generalize atf l cl = o at *
    cases o with
    | none =>
      have HE : Hid (docBegin l ds t k cl v = (6, ds)) := Lib.hid HDB.out
      go_wp2_with fail
      go_ret
      exact ⟨by rw [HE.out]; rfl, by rw [HE.out]; exact HKC.out⟩
    | some sd =>
      by_cases ht : 0 ≤ t ∧ t < 8
      rotate_left
      · have HE : Hid (docBegin l ds t k cl v = (1, ds)) := Lib.hid (by rw [HDB.out]; dsimp only; rw [if_neg (fun h => ht h.1), if_pos (by omega)])
        by_cases ht0 : t < 0
        · have hd : decide (0 ≤ t) = false := decide_eq_false (by omega)
          clear ht
          go_wp2_with fail
          go_ret
          exact ⟨by rw [HE.out]; rfl, by rw [HE.out]; exact HKC.out⟩
        · have ht8 : 8 ≤ t := by omega
          have hd : decide (t < 8) = false := decide_eq_false (by omega)
          have ht0' : 0 ≤ t := by omega
          clear ht ht0
          go_wp2_with fail
          go_ret
          exact ⟨by rw [HE.out]; rfl, by rw [HE.out]; exact HKC.out⟩
      obtain ⟨ht0, ht8⟩ := ht
      have HTT := Lib.hid (And.intro ht0 ht8)
      obtain ⟨z, hz⟩ : ∃ z, busyZ ds t = z := ⟨_, rfl⟩
      rw [hz] at HBU HDB
      clear hz
      by_cases hzz : 0 ≤ z
      · have HE : Hid (docBegin l ds t k cl v = (12, ds)) := Lib.hid (by rw [HDB.out]; dsimp only; rw [if_pos ⟨HTT.out, hzz⟩])
        go_wp2_with fail
        refine HBU.out.mono ?_
        rintro e w3 ⟨rfl, rfl⟩
        go_wp2_with fail
        go_ret
        exact ⟨by rw [HE.out]; rfl, by rw [HE.out]; exact HKC.out⟩
      have hzd : decide (0 ≤ z) = false := decide_eq_false hzz
      by_cases hk1 : k < 1
      · have HE : Hid (docBegin l ds t k cl v = (1, ds)) := Lib.hid (by rw [HDB.out]; dsimp only; rw [if_neg (fun h => hzz h.2), if_pos (by omega)])
        clear hzz
        go_wp2_with fail
        refine HBU.out.mono ?_
        rintro e w3 ⟨rfl, rfl⟩
        go_wp2_with fail
        go_ret
        exact ⟨by rw [HE.out]; rfl, by rw [HE.out]; exact HKC.out⟩
      by_cases hk2 : 2 < k
      · have HE : Hid (docBegin l ds t k cl v = (1, ds)) := Lib.hid (by rw [HDB.out]; dsimp only; rw [if_neg (fun h => hzz h.2), if_pos (by omega)])
        have hk1' : 1 ≤ k := by omega
        clear hzz hk1
        go_wp2_with fail
        refine HBU.out.mono ?_
        rintro e w3 ⟨rfl, rfl⟩
        go_wp2_with fail
        go_ret
        exact ⟨by rw [HE.out]; rfl, by rw [HE.out]; exact HKC.out⟩
      have HE0 : Hid (docBegin l ds t k cl v = ((((docAdd ds cl sd).getD (placeZ (docAdd ds cl sd) cl 0).toNat d0).2.begin t k cl v).1, docTurn (docAdd ds cl sd) (placeZ (docAdd ds cl sd) cl 0).toNat (((docAdd ds cl sd).getD (placeZ (docAdd ds cl sd) cl 0).toNat d0).2.begin t k cl v).2)) := Lib.hid (by rw [HDB.out]; dsimp only; rw [if_neg (fun h => hzz h.2), if_neg (by omega)])
      have hkd1 : decide (k < 1) = false := decide_eq_false hk1
      have hkd2 : decide (2 < k) = false := decide_eq_false hk2
      clear hzz hk1 hk2
      go_wp2_with fail
      refine HBU.out.mono ?_
      rintro e w3 ⟨rfl, rfl⟩
      go_wp2_with fail
      refine HPL.out.mono ?_
      rintro e w3 ⟨rfl, rfl⟩
      go_upto_if 53 with fail
      go_cut [] (fun wx => Hid (∃ j, AtD w wx B r KK (.slice A l.length c) (docAdd ds cl sd) X k cl v j))
      case first =>
        have HDA : Hid (docAdd ds cl sd = if placeZ ds cl 0 < 0 then ds ++ [(cl, ⟨sd.kind, sd.top, 0, 0, []⟩)] else ds) := Lib.hid rfl
        have HPC := Lib.hid (placeZ_cases cl ds 0)
        obtain ⟨pz, hpz⟩ : ∃ z, placeZ ds cl 0 = z := ⟨_, rfl⟩
        rw [hpz] at HDA HPC ⊢
        by_cases hneg : pz < 0
        rotate_left
        · have HDA2 := Lib.hid (HDA.out.trans (if_neg hneg))
          obtain ⟨j, hj, hpj, _⟩ : ∃ j, j < ds.length ∧ pz = ((0 + j : Nat) : Int) ∧ (ds.getD j d0).1 = cl := by
            rcases HPC.out with ⟨h, _⟩ | h
            · omega
            · exact h
          have HX5 := Lib.hid (show ¬ X w.heap.size from fun h => by have := (H4.out _ h).2; omega)
          have HR := Lib.hid (show AtD w w3 B r KK (.slice A l.length c) ds X k cl v j from ⟨Nv, Cv, gl, X, HO.out, HD.out, H3.out, Fr.ofUp HC.out.2.1, fun x h => .inl h, HC.out.2.2.1, H5.out.more (by omega), ⟨(H5.out.2 _ (getD_mem hj)).1, (H5.out.2 _ (getD_mem hj)).2.2⟩, hj, by rw [hpz, hpj, Nat.zero_add], HX5.out⟩)
          clear hpj
          go_wp2_with fail
          go_meet
          exact Lib.hid ⟨j, by rw [HDA2.out]; exact HR.out⟩
        · have HDA2 := Lib.hid (HDA.out.trans (if_pos hneg))
          have HNO := Lib.hid (show ∀ p ∈ ds, p.1 ≠ cl from by
            rcases HPC.out with ⟨_, h⟩ | ⟨j, _, h, _⟩
            · exact h
            · omega)
          clear hpz
          go_upto_region 9 with fail
          go_cut [] (fun wx => ∃ Nv9, Hid (DocO wx B r (.slice A l.length c) Nv9 Cv (ds ++ [(cl, ⟨sd.kind, sd.top, 0, 0, []⟩)]) gl ∧ DCells wx B r Nv9 Cv ds gl (XG X w3 wx) ∧ DX (XG X w3 wx) r Nv9 Cv ∧ Fr w3 wx X ∧ wx.heap[w.heap.size]? = some (.cells #[.int .i64 k, .int .i64 cl, .int .i64 v] 31) ∧ wx.heap[zb]? = some (.cells #[.int .i64 1, .int .i64 sd.kind, .int .i64 sd.top] 63)))
          case first =>
            obtain ⟨i0, hi, hz0, hz1, hz2⟩ := info_parts2
            have HI := Lib.hid hi
            have HZ0 := Lib.hid hz0
            have HZ1 := Lib.hid hz1
            have HZ2 := Lib.hid hz2
            clear hi hz0 hz1 hz2
            have k1 := HO.out.k1
            have k1a : ∀ o, (w3.alloc o).cell? ⟨r, 1, none⟩ = some Nv := fun o => (((Up.refl w3).alloc o).cell (p := ⟨r, 1, none⟩) HO.out.lt).trans HO.out.k1
            have k1b := k1a (.cells #[.int .i64 cl] 3)
            have HOW := Lib.hid HO.out.own1
            have HAA := Lib.hid (show w.heap.size < w3.heap.size ∧ w.heap.size ≠ r ∧ Nv.ownBlock ≠ some w.heap.size ∧ zb < w3.heap.size ∧ zb ≠ r ∧ Nv.ownBlock ≠ some zb from ⟨(Array.getElem?_eq_some_iff.1 HC.out.2.2.1).1, by have := H1.out.lt; omega, fun e => by have := (H1.out.own1.lt _ e).2; omega, (Array.getElem?_eq_some_iff.1 HC.out.1).1, by have := H1.out.lt; have := HC.out.2.2.2; omega, fun e => by have := (H1.out.own1.lt _ e).2; have := HC.out.2.2.2; omega⟩)
            have hua : Up w3 (w3.alloc (.cells #[.int .i64 cl] 3)) := (Up.refl w3).alloc _
            have HSZ := Lib.hid (show B ≤ w3.heap.size from Nat.le_trans HB.out HC.out.2.1.size)
            have HL := Lib.hid (show ds.length ≤ 1000 by have := H5.out.1; omega)
            have HX := Lib.hid (fun (W7 w7 : World) (g1 cap : Nat) (hU : Up w3 W7) => doc_app1 (W := W7) (w1 := w7) (g1 := g1) (cap := cap) (p := (cl, ⟨sd.kind, sd.top, 0, 0, []⟩)) HO.out HD.out H3.out hU)
            have b1d : w3.drew.cell? ⟨w.heap.size, 1, none⟩ = some (.int .i64 cl) := b1
            have HB1 := Lib.hid b1
            clear b0 b1
            refine wp_region_held_drew (S := fun w' => w'.cell? ⟨w.heap.size, 1, none⟩ = some (.int .i64 cl)) (by kernel_rfl) b1d (fun hS0 => ?_)
            refine wpAnyH_take (i := 0) (v := ?_) rfl (by kernel_rfl) (by kernel_rfl) (by kernel_rfl) (fun _ _ _ h => h) (Or.inl ⟨by kernel_rfl, ?_⟩) hS0 ?_
            rotate_left
            · intro w hSw
              try dsimp only at hSw
              go_simp
              try (with_reducible rfl)
            try simp only [Act.put, List.setIfInBounds_toArray, List.set_cons_zero, List.set_cons_succ]
            refine wpAnyH_take (i := 1) (v := ?_) rfl (by kernel_rfl) (by kernel_rfl) (by kernel_rfl) (fun _ _ _ h => h) (Or.inl ⟨by kernel_rfl, ?_⟩) hS0 ?_
            rotate_left
            · intro w hSw
              try dsimp only at hSw
              go_simp
              try (with_reducible rfl)
            try simp only [Act.put, List.setIfInBounds_toArray, List.set_cons_zero, List.set_cons_succ]
            refine wpAnyH_take (i := 2) (v := ?_) rfl (by kernel_rfl) (by kernel_rfl) (by kernel_rfl) (fun _ _ _ h => h) (Or.inl ⟨by kernel_rfl, ?_⟩) hS0 ?_
            rotate_left
            · intro w hSw
              try dsimp only at hSw
              go_simp
              try (with_reducible rfl)
            try simp only [Act.put, List.setIfInBounds_toArray, List.set_cons_zero, List.set_cons_succ]
            refine wpAnyH_take (i := 3) (v := ?_) rfl (by kernel_rfl) (by kernel_rfl) (by kernel_rfl) (fun _ _ _ h => h) (Or.inl ⟨by kernel_rfl, ?_⟩) hS0 ?_
            rotate_left
            · intro w hSw
              try dsimp only at hSw
              go_simp
              try (with_reducible rfl)
            try simp only [Act.put, List.setIfInBounds_toArray, List.set_cons_zero, List.set_cons_succ]
            refine wpAnyH_take (i := 5) (v := ?_) rfl (by kernel_rfl) (by kernel_rfl) (by kernel_rfl) (fun _ _ _ h => h) (Or.inl ⟨by kernel_rfl, ?_⟩) hS0 ?_
            rotate_left
            · intro w hSw
              try dsimp only at hSw
              go_simp
              try (with_reducible rfl)
            try simp only [Act.put, List.setIfInBounds_toArray, List.set_cons_zero, List.set_cons_succ]
            refine wpAnyH_take (i := 6) (v := ?_) rfl (by kernel_rfl) (by kernel_rfl) (by kernel_rfl) (fun _ _ _ h => h) (Or.inl ⟨by kernel_rfl, ?_⟩) hS0 ?_
            rotate_left
            · intro w hSw
              try dsimp only at hSw
              go_simp
              try (with_reducible rfl)
            try simp only [Act.put, List.setIfInBounds_toArray, List.set_cons_zero, List.set_cons_succ]
            refine wpAnyH_ready (rs := [4, 7]) (by kernel_rfl) (by simp) ?_
            refine AllReadyH.cons rfl (fun K hK => ?_) (AllReadyH.cons rfl (fun K hK => ?_) AllReadyH.nil)
            · go_simp
              refine hK.out _ _ hS0 (fun hS1 => ?_)
              clear hK K
              try simp only [Act.put, List.setIfInBounds_toArray, List.set_cons_zero, List.set_cons_succ]
              refine wpAnyH_ready (rs := [7]) (by kernel_rfl) (by simp) ?_
              refine AllReadyH.cons rfl (fun K hK => ?_) AllReadyH.nil
              go_simp
              refine hK.out _ _ ((cellE (hua.block _ HAA.out.1)).trans HB1.out) (fun hS2 => ?_)
              clear hK K
              try simp only [Act.put, List.setIfInBounds_toArray, List.set_cons_zero, List.set_cons_succ]
              refine wpAnyH_ready (rs := [8]) (by kernel_rfl) (by simp) ?_
              refine AllReadyH.cons rfl (fun K hK => ?_) AllReadyH.nil
              refine step_append_lies _ rfl (.tmp 58) (.tmp 61) 45 rfl B 3 i0 (.int .i64 0) 1 8 Try.underlying45 HI.out HZ0.out HZ1.out HZ2.out rfl (by decide) _ ds.length (ds.map numOf) rfl (own_same HOW.out fun k e => ((Up.refl w3).alloc _).drew.block k (HOW.out.lt k e).2) ⟨w3.heap.size, 0, none⟩ 1 1 [.int .i64 cl] rfl rfl (news1b w3 _ _) (by simp [Value.oneCell']) (by decide) (by have := HL.out; unfold maxLen; omega) (by have := HL.out; omega) (by have := HSZ.out; simp; omega) _ rfl ?_
              intro g1 cap w7 hown7 hg7 hat7 hlt7
              obtain ⟨⟨hc1, hf1⟩, HT0⟩ := HX.out _ _ _ _ ((Up.refl w3).alloc _).drew hown7 hg7 (hat7.imp id (fun e => by rw [e]; simp)) hlt7
              have hk7 : ∀ k, k < w3.heap.size → Nv.ownBlock ≠ some k → w7.heap[k]? = w3.heap[k]? := fun k h1 h2 => (hg7.block k (Nat.lt_of_lt_of_le h1 ((Up.refl w3).alloc _).drew.size) (fun e => h2 e.symm)).trans (((Up.refl w3).alloc _).drew.block k h1)
              have HT := Lib.hid HT0
              have hba := hk7 _ HAA.out.1 HAA.out.2.2.1
              have HBA := Lib.hid hba
              have HBZ := Lib.hid (hk7 _ HAA.out.2.2.2.1 HAA.out.2.2.2.2.2)
              clear HT0 hown7 hg7 hat7 hlt7 hk7
              refine hK.out _ _ ((cellE hba).trans HB1.out) (fun hS3 => ?_)
              clear hK K
              try simp only [Act.put, List.setIfInBounds_toArray, List.set_cons_zero, List.set_cons_succ]
              refine wpAnyH_take (i := 9) (v := ?_) rfl (by kernel_rfl) (by kernel_rfl) (by kernel_rfl) (fun _ _ _ h => h) (Or.inl ⟨by kernel_rfl, ?_⟩) hS3 ?_
              rotate_left
              · intro w hSw
                try dsimp only at hSw
                go_simp
                try (with_reducible rfl)
              try simp only [Act.put, List.setIfInBounds_toArray, List.set_cons_zero, List.set_cons_succ]
              refine wpAnyH_take (i := 10) (v := ?_) rfl (by kernel_rfl) (by kernel_rfl) (by kernel_rfl) (fun _ _ _ h => h) (Or.inl ⟨by kernel_rfl, ?_⟩) hS3 ?_
              rotate_left
              · intro w hSw
                try dsimp only at hSw
                go_simp
                try (with_reducible rfl)
              try simp only [Act.put, List.setIfInBounds_toArray, List.set_cons_zero, List.set_cons_succ]
              refine wpAnyH_ready (rs := [11]) (by kernel_rfl) (by simp) ?_
              refine AllReadyH.cons rfl (fun K hK => ?_) AllReadyH.nil
              go_simp
              refine hK.out _ _ ((cellE ((Below.heap_setCell w7 ⟨r, 1, none⟩ _ _ HAA.out.2.1).trans hba)).trans HB1.out) (fun hS4 => ?_)
              clear hK K
              try simp only [Act.put, List.setIfInBounds_toArray, List.set_cons_zero, List.set_cons_succ]
              refine wpAnyH_done (by kernel_rfl) ?_ _
              try simp only [Act.put, List.setIfInBounds_toArray, List.set_cons_zero, List.set_cons_succ, List.getElem_toArray, List.getElem_cons_succ, List.getElem_cons_zero]
              clear hS0 hS1 hS2 hS3 hS4 hba hc1 hf1
              go_wp2_with fail
              go_meet
              exact ⟨_, Lib.hid ⟨HT.out.1, HT.out.2.1, HT.out.2.2.1, HT.out.2.2.2, (Below.heap_setCell w7 ⟨r, 1, none⟩ _ _ HAA.out.2.1).trans (HBA.out.trans HC.out.2.2.1), (Below.heap_setCell w7 ⟨r, 1, none⟩ _ _ HAA.out.2.2.2.2.1).trans (HBZ.out.trans HC.out.1)⟩⟩
            · go_simp
              refine hK.out _ _ ((cellE (hua.block _ HAA.out.1)).trans HB1.out) (fun hS1 => ?_)
              clear hK K
              try simp only [Act.put, List.setIfInBounds_toArray, List.set_cons_zero, List.set_cons_succ]
              refine wpAnyH_ready (rs := [4]) (by kernel_rfl) (by simp) ?_
              refine AllReadyH.cons rfl (fun K hK => ?_) AllReadyH.nil
              go_simp
              refine hK.out _ _ hS1 (fun hS2 => ?_)
              clear hK K
              try simp only [Act.put, List.setIfInBounds_toArray, List.set_cons_zero, List.set_cons_succ]
              refine wpAnyH_ready (rs := [8]) (by kernel_rfl) (by simp) ?_
              refine AllReadyH.cons rfl (fun K hK => ?_) AllReadyH.nil
              refine step_append_lies _ rfl (.tmp 58) (.tmp 61) 45 rfl B 3 i0 (.int .i64 0) 1 8 Try.underlying45 HI.out HZ0.out HZ1.out HZ2.out rfl (by decide) _ ds.length (ds.map numOf) rfl (own_same HOW.out fun k e => ((Up.refl w3).alloc _).drew.block k (HOW.out.lt k e).2) ⟨w3.heap.size, 0, none⟩ 1 1 [.int .i64 cl] rfl rfl (news1b w3 _ _) (by simp [Value.oneCell']) (by decide) (by have := HL.out; unfold maxLen; omega) (by have := HL.out; omega) (by have := HSZ.out; simp; omega) _ rfl ?_
              intro g1 cap w7 hown7 hg7 hat7 hlt7
              obtain ⟨⟨hc1, hf1⟩, HT0⟩ := HX.out _ _ _ _ ((Up.refl w3).alloc _).drew hown7 hg7 (hat7.imp id (fun e => by rw [e]; simp)) hlt7
              have hk7 : ∀ k, k < w3.heap.size → Nv.ownBlock ≠ some k → w7.heap[k]? = w3.heap[k]? := fun k h1 h2 => (hg7.block k (Nat.lt_of_lt_of_le h1 ((Up.refl w3).alloc _).drew.size) (fun e => h2 e.symm)).trans (((Up.refl w3).alloc _).drew.block k h1)
              have HT := Lib.hid HT0
              have hba := hk7 _ HAA.out.1 HAA.out.2.2.1
              have HBA := Lib.hid hba
              have HBZ := Lib.hid (hk7 _ HAA.out.2.2.2.1 HAA.out.2.2.2.2.2)
              clear HT0 hown7 hg7 hat7 hlt7 hk7
              refine hK.out _ _ ((cellE hba).trans HB1.out) (fun hS3 => ?_)
              clear hK K
              try simp only [Act.put, List.setIfInBounds_toArray, List.set_cons_zero, List.set_cons_succ]
              refine wpAnyH_take (i := 9) (v := ?_) rfl (by kernel_rfl) (by kernel_rfl) (by kernel_rfl) (fun _ _ _ h => h) (Or.inl ⟨by kernel_rfl, ?_⟩) hS3 ?_
              rotate_left
              · intro w hSw
                try dsimp only at hSw
                go_simp
                try (with_reducible rfl)
              try simp only [Act.put, List.setIfInBounds_toArray, List.set_cons_zero, List.set_cons_succ]
              refine wpAnyH_take (i := 10) (v := ?_) rfl (by kernel_rfl) (by kernel_rfl) (by kernel_rfl) (fun _ _ _ h => h) (Or.inl ⟨by kernel_rfl, ?_⟩) hS3 ?_
              rotate_left
              · intro w hSw
                try dsimp only at hSw
                go_simp
                try (with_reducible rfl)
              try simp only [Act.put, List.setIfInBounds_toArray, List.set_cons_zero, List.set_cons_succ]
              refine wpAnyH_ready (rs := [11]) (by kernel_rfl) (by simp) ?_
              refine AllReadyH.cons rfl (fun K hK => ?_) AllReadyH.nil
              go_simp
              refine hK.out _ _ ((cellE ((Below.heap_setCell w7 ⟨r, 1, none⟩ _ _ HAA.out.2.1).trans hba)).trans HB1.out) (fun hS4 => ?_)
              clear hK K
              try simp only [Act.put, List.setIfInBounds_toArray, List.set_cons_zero, List.set_cons_succ]
              refine wpAnyH_done (by kernel_rfl) ?_ _
              try simp only [Act.put, List.setIfInBounds_toArray, List.set_cons_zero, List.set_cons_succ, List.getElem_toArray, List.getElem_cons_succ, List.getElem_cons_zero]
              clear hS0 hS1 hS2 hS3 hS4 hba hc1 hf1
              go_wp2_with fail
              go_meet
              exact ⟨_, Lib.hid ⟨HT.out.1, HT.out.2.1, HT.out.2.2.1, HT.out.2.2.2, (Below.heap_setCell w7 ⟨r, 1, none⟩ _ _ HAA.out.2.1).trans (HBA.out.trans HC.out.2.2.1), (Below.heap_setCell w7 ⟨r, 1, none⟩ _ _ HAA.out.2.2.2.2.1).trans (HBZ.out.trans HC.out.1)⟩⟩
          case rest =>
            obtain ⟨Nv9, HR9⟩ := hcut
            obtain ⟨w9, hw9⟩ : ∃ x, wc = x := ⟨_, rfl⟩
            rw [hw9] at HR9 ⊢
            clear hw9
            go_upto_region 10 with fail
            obtain ⟨i0, hi, hz0, hz1, hz2⟩ := info_partsP
            have HI := Lib.hid hi
            have HZ0 := Lib.hid hz0
            have HZ1 := Lib.hid hz1
            have HZ2 := Lib.hid hz2
            clear hi hz0 hz1 hz2 b0 b1
            have HOW := Lib.hid HR9.out.1.own2
            have HSZ := Lib.hid (show B ≤ w9.heap.size from Nat.le_trans (Nat.le_trans HB.out HC.out.2.1.size) HR9.out.2.2.2.1.size)
            have HL := Lib.hid (show gl.length ≤ 1000 by have := H5.out.1; have := H2.out.len; omega)
            have k2 := HR9.out.1.k2
            have k2a : ∀ W9, Up w9 W9 → W9.cell? ⟨r, 2, none⟩ = some Cv := fun W9 u => (u.cell (p := ⟨r, 2, none⟩) HR9.out.1.lt).trans HR9.out.1.k2
            have k2b := k2a _ ((Up.refl w9).alloc (.cells #[.int .i64 sd.kind, .int .i64 sd.top, .int .i64 0, .int .i64 0, .slice none 0 0] 29))
            have k2c := k2a _ (((Up.refl w9).alloc (.cells #[.int .i64 sd.kind, .int .i64 sd.top, .int .i64 0, .int .i64 0, .slice none 0 0] 29)).alloc (.cells #[.pointer (some ⟨w9.heap.size, 0, none⟩)] 26))
            have hua : Up w9 (w9.alloc (.cells #[.int .i64 sd.kind, .int .i64 sd.top, .int .i64 0, .int .i64 0, .slice none 0 0] 29)) := (Up.refl w9).alloc _
            have hub : Up w9 ((w9.alloc (.cells #[.int .i64 sd.kind, .int .i64 sd.top, .int .i64 0, .int .i64 0, .slice none 0 0] 29)).alloc (.cells #[.pointer (some ⟨w9.heap.size, 0, none⟩)] 26)) := hua.alloc _
            have HDN := Lib.hid (show DocIs ((w9.alloc (.cells #[.int .i64 sd.kind, .int .i64 sd.top, .int .i64 0, .int .i64 0, .slice none 0 0] 29)).alloc (.cells #[.pointer (some ⟨w9.heap.size, 0, none⟩)] 26)).drew w9.heap.size B ⟨sd.kind, sd.top, 0, 0, []⟩ (.slice none 0 0) from
              docIs_new (t := 29) (((((Up.refl (w9.alloc (.cells #[.int .i64 sd.kind, .int .i64 sd.top, .int .i64 0, .int .i64 0, .slice none 0 0] 29))).alloc (.cells #[.pointer (some ⟨w9.heap.size, 0, none⟩)] 26)).drew).block w9.heap.size (by simp)).trans (heap_alloc_new w9 _)) HSZ.out)
            have c1 := cell_of_row _ _ 1 _ _ _ HR9.out.2.2.2.2.2
            have c2 := cell_of_row _ _ 2 _ _ _ HR9.out.2.2.2.2.2
            simp only [List.getElem?_toArray, List.getElem?_cons_zero, List.getElem?_cons_succ] at c1 c2
            have HAA := Lib.hid (show w.heap.size < w9.heap.size ∧ w.heap.size ≠ r ∧ Cv.ownBlock ≠ some w.heap.size ∧ zb < w9.heap.size ∧ zb ≠ r ∧ Cv.ownBlock ≠ some zb from ⟨(Array.getElem?_eq_some_iff.1 HR9.out.2.2.2.2.1).1, by have := H1.out.lt; omega, fun e => by have := (H1.out.own2.lt _ e).2; omega, (Array.getElem?_eq_some_iff.1 HR9.out.2.2.2.2.2).1, by have := H1.out.lt; have := HC.out.2.2.2; omega, fun e => by have := (H1.out.own2.lt _ e).2; have := HC.out.2.2.2; omega⟩)
            have HX := Lib.hid (fun (W7 w7 : World) (g1 cap : Nat) (hU : Up w9 W7) => doc_app2 (W := W7) (w1 := w7) (g := w9.heap.size) (g1 := g1) (cap := cap) HR9.out.1 HR9.out.2.1 HR9.out.2.2.1 hU (Nat.le_refl _))
            have hSS : w9.drew.cell? ⟨zb, 1, none⟩ = some (.int .i64 sd.kind) ∧ w9.drew.cell? ⟨zb, 2, none⟩ = some (.int .i64 sd.top) := ⟨c1, c2⟩
            have HSV := Lib.hid (fun (w' : World) (h1 : w'.heap[zb]? = w9.heap[zb]?) => (show w'.cell? ⟨zb, 1, none⟩ = some (.int .i64 sd.kind) ∧ w'.cell? ⟨zb, 2, none⟩ = some (.int .i64 sd.top) from ⟨(cellE h1).trans c1, (cellE h1).trans c2⟩))
            clear c1 c2
            refine wp_region_held_drew (S := fun w' => w'.cell? ⟨zb, 1, none⟩ = some (.int .i64 sd.kind) ∧ w'.cell? ⟨zb, 2, none⟩ = some (.int .i64 sd.top)) (by kernel_rfl) hSS (fun hS0 => ?_)
            clear hSS
            refine wpAnyH_take (i := 0) (v := ?_) rfl (by kernel_rfl) (by kernel_rfl) (by kernel_rfl) (fun _ _ _ h => h) (Or.inl ⟨by kernel_rfl, ?_⟩) hS0 ?_
            rotate_left
            · intro w hSw
              try dsimp only at hSw
              go_simp
              try (with_reducible rfl)
            try simp only [Act.put, List.setIfInBounds_toArray, List.set_cons_zero, List.set_cons_succ]
            refine wpAnyH_take (i := 1) (v := ?_) rfl (by kernel_rfl) (by kernel_rfl) (by kernel_rfl) (fun _ _ _ h => h) (Or.inl ⟨by kernel_rfl, ?_⟩) hS0 ?_
            rotate_left
            · intro w hSw
              try dsimp only at hSw
              go_simp
              try (with_reducible rfl)
            try simp only [Act.put, List.setIfInBounds_toArray, List.set_cons_zero, List.set_cons_succ]
            refine wpAnyH_take (i := 2) (v := ?_) rfl (by kernel_rfl) (by kernel_rfl) (by kernel_rfl) (fun _ _ _ h => h) (Or.inl ⟨by kernel_rfl, ?_⟩) hS0 ?_
            rotate_left
            · intro w hSw
              try dsimp only at hSw
              go_simp
              try (with_reducible rfl)
            try simp only [Act.put, List.setIfInBounds_toArray, List.set_cons_zero, List.set_cons_succ]
            refine wpAnyH_take (i := 3) (v := ?_) rfl (by kernel_rfl) (by kernel_rfl) (by kernel_rfl) (fun _ _ _ h => h) (Or.inl ⟨by kernel_rfl, ?_⟩) hS0 ?_
            rotate_left
            · intro w hSw
              try dsimp only at hSw
              go_simp
              try (with_reducible rfl)
            try simp only [Act.put, List.setIfInBounds_toArray, List.set_cons_zero, List.set_cons_succ]
            refine wpAnyH_take (i := 5) (v := ?_) rfl (by kernel_rfl) (by kernel_rfl) (by kernel_rfl) (fun _ _ _ h => h) (Or.inl ⟨by kernel_rfl, ?_⟩) hS0 ?_
            rotate_left
            · intro w hSw
              try dsimp only at hSw
              go_simp
              try (with_reducible rfl)
            try simp only [Act.put, List.setIfInBounds_toArray, List.set_cons_zero, List.set_cons_succ]
            refine wpAnyH_take (i := 6) (v := ?_) rfl (by kernel_rfl) (by kernel_rfl) (by kernel_rfl) (fun _ _ _ h => h) (Or.inl ⟨by kernel_rfl, ?_⟩) hS0 ?_
            rotate_left
            · intro w hSw
              try dsimp only at hSw
              go_simp
              try (with_reducible rfl)
            try simp only [Act.put, List.setIfInBounds_toArray, List.set_cons_zero, List.set_cons_succ]
            refine wpAnyH_take (i := 7) (v := ?_) rfl (by kernel_rfl) (by kernel_rfl) (by kernel_rfl) (fun _ _ _ h => h) (Or.inl ⟨by kernel_rfl, ?_⟩) hS0 ?_
            rotate_left
            · intro w hSw
              try dsimp only at hSw
              go_simp
              try (with_reducible rfl)
            try simp only [Act.put, List.setIfInBounds_toArray, List.set_cons_zero, List.set_cons_succ]
            refine wpAnyH_take (i := 8) (v := ?_) rfl (by kernel_rfl) (by kernel_rfl) (by kernel_rfl) (fun _ _ _ h => h) (Or.inl ⟨by kernel_rfl, ?_⟩) hS0 ?_
            rotate_left
            · intro w hSw
              try dsimp only at hSw
              go_simp
              try (with_reducible rfl)
            try simp only [Act.put, List.setIfInBounds_toArray, List.set_cons_zero, List.set_cons_succ]
            refine wpAnyH_take (i := 9) (v := ?_) rfl (by kernel_rfl) (by kernel_rfl) (by kernel_rfl) (fun _ _ _ h => h) (Or.inl ⟨by kernel_rfl, ?_⟩) hS0 ?_
            rotate_left
            · intro w hSw
              try dsimp only at hSw
              go_simp
              try (with_reducible rfl)
            try simp only [Act.put, List.setIfInBounds_toArray, List.set_cons_zero, List.set_cons_succ]
            refine wpAnyH_ready (rs := [4, 10]) (by kernel_rfl) (by simp) ?_
            refine AllReadyH.cons rfl (fun K hK => ?_) (AllReadyH.cons rfl (fun K hK => ?_) AllReadyH.nil)
            · go_simp
              refine hK.out _ _ hS0 (fun hS1 => ?_)
              clear hK K
              try simp only [Act.put, List.setIfInBounds_toArray, List.set_cons_zero, List.set_cons_succ]
              refine wpAnyH_ready (rs := [10]) (by kernel_rfl) (by simp) ?_
              refine AllReadyH.cons rfl (fun K hK => ?_) AllReadyH.nil
              go_simp
              refine hK.out _ _ (HSV.out _ (hua.block _ HAA.out.2.2.2.1)) (fun hS2 => ?_)
              clear hK K
              try simp only [Act.put, List.setIfInBounds_toArray, List.set_cons_zero, List.set_cons_succ]
              refine wpAnyH_ready (rs := [11]) (by kernel_rfl) (by simp) ?_
              refine AllReadyH.cons rfl (fun K hK => ?_) AllReadyH.nil
              go_simp
              refine hK.out _ _ (HSV.out _ (hub.block _ HAA.out.2.2.2.1)) (fun hS3 => ?_)
              clear hK K
              try simp only [Act.put, List.setIfInBounds_toArray, List.set_cons_zero, List.set_cons_succ]
              refine wpAnyH_ready (rs := [12]) (by kernel_rfl) (by simp) ?_
              refine AllReadyH.cons rfl (fun K hK => ?_) AllReadyH.nil
              refine step_append_lies _ rfl (.tmp 69) (.tmp 76) 53 rfl B 26 i0 (.pointer none) 1 8 Try.underlying53 HI.out HZ0.out HZ1.out HZ2.out rfl (by decide) _ gl.length (gl.map ptrOf) rfl (own_same HOW.out fun k e => hub.drew.block k (HOW.out.lt k e).2) ⟨w9.heap.size + 1, 0, none⟩ 1 1 [.pointer (some ⟨w9.heap.size, 0, none⟩)] rfl rfl (fun j u hu => by
                have := news1b (w9.alloc (.cells #[.int .i64 sd.kind, .int .i64 sd.top, .int .i64 0, .int .i64 0, .slice none 0 0] 29)) [.pointer (some ⟨w9.heap.size, 0, none⟩)] 26 j u hu
                rw [World.size_alloc] at this
                exact this) (by simp [Value.oneCell']) (by decide) (by have := HL.out; unfold maxLen; omega) (by have := HL.out; omega) (by have := HSZ.out; simp; omega) _ rfl ?_
              intro g1 cap w7 hown7 hg7 hat7 hlt7
              obtain ⟨⟨hc1, hf1⟩, HT0⟩ := HX.out _ _ _ _ hub.drew HDN.out hown7 hg7 (hat7.imp id (fun e => by rw [e]; exact Nat.le_refl _)) hlt7
              have hk7 : ∀ k, k < w9.heap.size → Cv.ownBlock ≠ some k → w7.heap[k]? = w9.heap[k]? := fun k h1 h2 => (hg7.block k (Nat.lt_of_lt_of_le h1 hub.drew.size) (fun e => h2 e.symm)).trans (hub.drew.block k h1)
              have HT := Lib.hid HT0
              have HBA := Lib.hid (hk7 _ HAA.out.1 HAA.out.2.2.1)
              have hbz := hk7 _ HAA.out.2.2.2.1 HAA.out.2.2.2.2.2
              clear HT0 hown7 hg7 hat7 hlt7 hk7
              refine hK.out _ _ (HSV.out _ hbz) (fun hS4 => ?_)
              clear hK K
              try simp only [Act.put, List.setIfInBounds_toArray, List.set_cons_zero, List.set_cons_succ]
              refine wpAnyH_take (i := 13) (v := ?_) rfl (by kernel_rfl) (by kernel_rfl) (by kernel_rfl) (fun _ _ _ h => h) (Or.inl ⟨by kernel_rfl, ?_⟩) hS4 ?_
              rotate_left
              · intro w hSw
                try dsimp only at hSw
                go_simp
                try (with_reducible rfl)
              try simp only [Act.put, List.setIfInBounds_toArray, List.set_cons_zero, List.set_cons_succ]
              refine wpAnyH_take (i := 14) (v := ?_) rfl (by kernel_rfl) (by kernel_rfl) (by kernel_rfl) (fun _ _ _ h => h) (Or.inl ⟨by kernel_rfl, ?_⟩) hS4 ?_
              rotate_left
              · intro w hSw
                try dsimp only at hSw
                go_simp
                try (with_reducible rfl)
              try simp only [Act.put, List.setIfInBounds_toArray, List.set_cons_zero, List.set_cons_succ]
              refine wpAnyH_ready (rs := [15]) (by kernel_rfl) (by simp) ?_
              refine AllReadyH.cons rfl (fun K hK => ?_) AllReadyH.nil
              go_simp
              refine hK.out _ _ (HSV.out _ ((Below.heap_setCell w7 ⟨r, 2, none⟩ _ _ HAA.out.2.2.2.2.1).trans hbz)) (fun hS5 => ?_)
              clear hK K
              try simp only [Act.put, List.setIfInBounds_toArray, List.set_cons_zero, List.set_cons_succ]
              refine wpAnyH_done (by kernel_rfl) ?_ _
              try simp only [Act.put, List.setIfInBounds_toArray, List.set_cons_zero, List.set_cons_succ, List.getElem_toArray, List.getElem_cons_succ, List.getElem_cons_zero]
              clear hS0 hS1 hS2 hS3 hS4 hS5 hbz hc1 hf1
              go_wp2_with fail
              go_meet
              have hfr : Fr w (w7.setCell ⟨r, 2, none⟩ (.slice (some ⟨g1, 0, none⟩) (gl.length + 1) cap)) X := ((Fr.ofUp HC.out.2.1).same HR9.out.2.2.2.1).trans HT.out.2.2.2 (fun x hx h => by
                rcases h with h | h
                · exact h
                · have := HC.out.2.1.size; omega)
              refine Lib.hid ⟨ds.length, ?_⟩
              rw [HDA2.out]
              refine ⟨_, _, _, _, HT.out.1, HT.out.2.1, HT.out.2.2.1, hfr, fun x hx => ?_, (Below.heap_setCell w7 ⟨r, 2, none⟩ _ _ HAA.out.2.1).trans (HBA.out.trans HR9.out.2.2.2.2.1), ⟨by simp; exact H5.out.1, fun p hp => ?_⟩, ?_, by simp, ?_, fun hx => ?_⟩
              · have h1 := HC.out.2.1.size
                have h2 := HR9.out.2.2.2.1.size
                have h3 := HT.out.2.2.2.size
                rcases hx with (hx | hx) | hx
                · exact .inl hx
                · exact .inr ⟨by omega, by omega⟩
                · exact .inr ⟨by omega, hx.2⟩
              · rcases List.mem_append.1 hp with hp | hp
                · have := H5.out.2 p hp; omega
                · rw [List.mem_singleton] at hp; rw [hp]; simp; omega
              · rw [List.getD_eq_getElem?_getD, List.getElem?_append_right (Nat.le_refl _)]
                simp
              · have hpn : ∀ (ds' : BDl) (i : Nat), (∀ p ∈ ds', p.1 ≠ cl) → placeZ (ds' ++ [(cl, (⟨sd.kind, sd.top, 0, 0, []⟩ : DS))]) cl i = ((i + ds'.length : Nat) : Int) := fun ds' => by
                  induction ds' with
                  | nil => intro i _; show (if cl = cl then _ else _) = _; rw [if_pos rfl]; simp
                  | cons p r ih =>
                    intro i h
                    show (if p.1 = cl then _ else placeZ (r ++ _) cl (i + 1)) = _
                    rw [if_neg (h p (by simp)), ih (i + 1) (fun q hq => h q (by simp [hq]))]
                    congr 1
                    simp
                    omega
                rw [hpn ds 0 HNO.out, Nat.zero_add]
              · have h1 := HC.out.2.2.2
                have h3 := (Array.getElem?_eq_some_iff.1 HC.out.2.2.1).1
                have h4 := HAA.out.1
                rcases hx with (hx | hx) | hx
                · have := (H4.out _ hx).2; omega
                · omega
                · omega
            · go_simp
              refine hK.out _ _ (HSV.out _ (hua.block _ HAA.out.2.2.2.1)) (fun hS1 => ?_)
              clear hK K
              try simp only [Act.put, List.setIfInBounds_toArray, List.set_cons_zero, List.set_cons_succ]
              refine wpAnyH_ready (rs := [4, 11]) (by kernel_rfl) (by simp) ?_
              refine AllReadyH.cons rfl (fun K hK => ?_) (AllReadyH.cons rfl (fun K hK => ?_) AllReadyH.nil)
              · go_simp
                refine hK.out _ _ hS1 (fun hS2 => ?_)
                clear hK K
                try simp only [Act.put, List.setIfInBounds_toArray, List.set_cons_zero, List.set_cons_succ]
                refine wpAnyH_ready (rs := [11]) (by kernel_rfl) (by simp) ?_
                refine AllReadyH.cons rfl (fun K hK => ?_) AllReadyH.nil
                go_simp
                refine hK.out _ _ (HSV.out _ (hub.block _ HAA.out.2.2.2.1)) (fun hS3 => ?_)
                clear hK K
                try simp only [Act.put, List.setIfInBounds_toArray, List.set_cons_zero, List.set_cons_succ]
                refine wpAnyH_ready (rs := [12]) (by kernel_rfl) (by simp) ?_
                refine AllReadyH.cons rfl (fun K hK => ?_) AllReadyH.nil
                refine step_append_lies _ rfl (.tmp 69) (.tmp 76) 53 rfl B 26 i0 (.pointer none) 1 8 Try.underlying53 HI.out HZ0.out HZ1.out HZ2.out rfl (by decide) _ gl.length (gl.map ptrOf) rfl (own_same HOW.out fun k e => hub.drew.block k (HOW.out.lt k e).2) ⟨w9.heap.size + 1, 0, none⟩ 1 1 [.pointer (some ⟨w9.heap.size, 0, none⟩)] rfl rfl (fun j u hu => by
                  have := news1b (w9.alloc (.cells #[.int .i64 sd.kind, .int .i64 sd.top, .int .i64 0, .int .i64 0, .slice none 0 0] 29)) [.pointer (some ⟨w9.heap.size, 0, none⟩)] 26 j u hu
                  rw [World.size_alloc] at this
                  exact this) (by simp [Value.oneCell']) (by decide) (by have := HL.out; unfold maxLen; omega) (by have := HL.out; omega) (by have := HSZ.out; simp; omega) _ rfl ?_
                intro g1 cap w7 hown7 hg7 hat7 hlt7
                obtain ⟨⟨hc1, hf1⟩, HT0⟩ := HX.out _ _ _ _ hub.drew HDN.out hown7 hg7 (hat7.imp id (fun e => by rw [e]; exact Nat.le_refl _)) hlt7
                have hk7 : ∀ k, k < w9.heap.size → Cv.ownBlock ≠ some k → w7.heap[k]? = w9.heap[k]? := fun k h1 h2 => (hg7.block k (Nat.lt_of_lt_of_le h1 hub.drew.size) (fun e => h2 e.symm)).trans (hub.drew.block k h1)
                have HT := Lib.hid HT0
                have HBA := Lib.hid (hk7 _ HAA.out.1 HAA.out.2.2.1)
                have hbz := hk7 _ HAA.out.2.2.2.1 HAA.out.2.2.2.2.2
                clear HT0 hown7 hg7 hat7 hlt7 hk7
                refine hK.out _ _ (HSV.out _ hbz) (fun hS4 => ?_)
                clear hK K
                try simp only [Act.put, List.setIfInBounds_toArray, List.set_cons_zero, List.set_cons_succ]
                refine wpAnyH_take (i := 13) (v := ?_) rfl (by kernel_rfl) (by kernel_rfl) (by kernel_rfl) (fun _ _ _ h => h) (Or.inl ⟨by kernel_rfl, ?_⟩) hS4 ?_
                rotate_left
                · intro w hSw
                  try dsimp only at hSw
                  go_simp
                  try (with_reducible rfl)
                try simp only [Act.put, List.setIfInBounds_toArray, List.set_cons_zero, List.set_cons_succ]
                refine wpAnyH_take (i := 14) (v := ?_) rfl (by kernel_rfl) (by kernel_rfl) (by kernel_rfl) (fun _ _ _ h => h) (Or.inl ⟨by kernel_rfl, ?_⟩) hS4 ?_
                rotate_left
                · intro w hSw
                  try dsimp only at hSw
                  go_simp
                  try (with_reducible rfl)
                try simp only [Act.put, List.setIfInBounds_toArray, List.set_cons_zero, List.set_cons_succ]
                refine wpAnyH_ready (rs := [15]) (by kernel_rfl) (by simp) ?_
                refine AllReadyH.cons rfl (fun K hK => ?_) AllReadyH.nil
                go_simp
                refine hK.out _ _ (HSV.out _ ((Below.heap_setCell w7 ⟨r, 2, none⟩ _ _ HAA.out.2.2.2.2.1).trans hbz)) (fun hS5 => ?_)
                clear hK K
                try simp only [Act.put, List.setIfInBounds_toArray, List.set_cons_zero, List.set_cons_succ]
                refine wpAnyH_done (by kernel_rfl) ?_ _
                try simp only [Act.put, List.setIfInBounds_toArray, List.set_cons_zero, List.set_cons_succ, List.getElem_toArray, List.getElem_cons_succ, List.getElem_cons_zero]
                clear hS0 hS1 hS2 hS3 hS4 hS5 hbz hc1 hf1
                go_wp2_with fail
                go_meet
                have hfr : Fr w (w7.setCell ⟨r, 2, none⟩ (.slice (some ⟨g1, 0, none⟩) (gl.length + 1) cap)) X := ((Fr.ofUp HC.out.2.1).same HR9.out.2.2.2.1).trans HT.out.2.2.2 (fun x hx h => by
                  rcases h with h | h
                  · exact h
                  · have := HC.out.2.1.size; omega)
                refine Lib.hid ⟨ds.length, ?_⟩
                rw [HDA2.out]
                refine ⟨_, _, _, _, HT.out.1, HT.out.2.1, HT.out.2.2.1, hfr, fun x hx => ?_, (Below.heap_setCell w7 ⟨r, 2, none⟩ _ _ HAA.out.2.1).trans (HBA.out.trans HR9.out.2.2.2.2.1), ⟨by simp; exact H5.out.1, fun p hp => ?_⟩, ?_, by simp, ?_, fun hx => ?_⟩
                · have h1 := HC.out.2.1.size
                  have h2 := HR9.out.2.2.2.1.size
                  have h3 := HT.out.2.2.2.size
                  rcases hx with (hx | hx) | hx
                  · exact .inl hx
                  · exact .inr ⟨by omega, by omega⟩
                  · exact .inr ⟨by omega, hx.2⟩
                · rcases List.mem_append.1 hp with hp | hp
                  · have := H5.out.2 p hp; omega
                  · rw [List.mem_singleton] at hp; rw [hp]; simp; omega
                · rw [List.getD_eq_getElem?_getD, List.getElem?_append_right (Nat.le_refl _)]
                  simp
                · have hpn : ∀ (ds' : BDl) (i : Nat), (∀ p ∈ ds', p.1 ≠ cl) → placeZ (ds' ++ [(cl, (⟨sd.kind, sd.top, 0, 0, []⟩ : DS))]) cl i = ((i + ds'.length : Nat) : Int) := fun ds' => by
                    induction ds' with
                    | nil => intro i _; show (if cl = cl then _ else _) = _; rw [if_pos rfl]; simp
                    | cons p r ih =>
                      intro i h
                      show (if p.1 = cl then _ else placeZ (r ++ _) cl (i + 1)) = _
                      rw [if_neg (h p (by simp)), ih (i + 1) (fun q hq => h q (by simp [hq]))]
                      congr 1
                      simp
                      omega
                  rw [hpn ds 0 HNO.out, Nat.zero_add]
                · have h1 := HC.out.2.2.2
                  have h3 := (Array.getElem?_eq_some_iff.1 HC.out.2.2.1).1
                  have h4 := HAA.out.1
                  rcases hx with (hx | hx) | hx
                  · have := (H4.out _ hx).2; omega
                  · omega
                  · omega
              · go_simp
                refine hK.out _ _ (HSV.out _ (hub.block _ HAA.out.2.2.2.1)) (fun hS2 => ?_)
                clear hK K
                try simp only [Act.put, List.setIfInBounds_toArray, List.set_cons_zero, List.set_cons_succ]
                refine wpAnyH_ready (rs := [4]) (by kernel_rfl) (by simp) ?_
                refine AllReadyH.cons rfl (fun K hK => ?_) AllReadyH.nil
                go_simp
                refine hK.out _ _ hS2 (fun hS3 => ?_)
                clear hK K
                try simp only [Act.put, List.setIfInBounds_toArray, List.set_cons_zero, List.set_cons_succ]
                refine wpAnyH_ready (rs := [12]) (by kernel_rfl) (by simp) ?_
                refine AllReadyH.cons rfl (fun K hK => ?_) AllReadyH.nil
                refine step_append_lies _ rfl (.tmp 69) (.tmp 76) 53 rfl B 26 i0 (.pointer none) 1 8 Try.underlying53 HI.out HZ0.out HZ1.out HZ2.out rfl (by decide) _ gl.length (gl.map ptrOf) rfl (own_same HOW.out fun k e => hub.drew.block k (HOW.out.lt k e).2) ⟨w9.heap.size + 1, 0, none⟩ 1 1 [.pointer (some ⟨w9.heap.size, 0, none⟩)] rfl rfl (fun j u hu => by
                  have := news1b (w9.alloc (.cells #[.int .i64 sd.kind, .int .i64 sd.top, .int .i64 0, .int .i64 0, .slice none 0 0] 29)) [.pointer (some ⟨w9.heap.size, 0, none⟩)] 26 j u hu
                  rw [World.size_alloc] at this
                  exact this) (by simp [Value.oneCell']) (by decide) (by have := HL.out; unfold maxLen; omega) (by have := HL.out; omega) (by have := HSZ.out; simp; omega) _ rfl ?_
                intro g1 cap w7 hown7 hg7 hat7 hlt7
                obtain ⟨⟨hc1, hf1⟩, HT0⟩ := HX.out _ _ _ _ hub.drew HDN.out hown7 hg7 (hat7.imp id (fun e => by rw [e]; exact Nat.le_refl _)) hlt7
                have hk7 : ∀ k, k < w9.heap.size → Cv.ownBlock ≠ some k → w7.heap[k]? = w9.heap[k]? := fun k h1 h2 => (hg7.block k (Nat.lt_of_lt_of_le h1 hub.drew.size) (fun e => h2 e.symm)).trans (hub.drew.block k h1)
                have HT := Lib.hid HT0
                have HBA := Lib.hid (hk7 _ HAA.out.1 HAA.out.2.2.1)
                have hbz := hk7 _ HAA.out.2.2.2.1 HAA.out.2.2.2.2.2
                clear HT0 hown7 hg7 hat7 hlt7 hk7
                refine hK.out _ _ (HSV.out _ hbz) (fun hS4 => ?_)
                clear hK K
                try simp only [Act.put, List.setIfInBounds_toArray, List.set_cons_zero, List.set_cons_succ]
                refine wpAnyH_take (i := 13) (v := ?_) rfl (by kernel_rfl) (by kernel_rfl) (by kernel_rfl) (fun _ _ _ h => h) (Or.inl ⟨by kernel_rfl, ?_⟩) hS4 ?_
                rotate_left
                · intro w hSw
                  try dsimp only at hSw
                  go_simp
                  try (with_reducible rfl)
                try simp only [Act.put, List.setIfInBounds_toArray, List.set_cons_zero, List.set_cons_succ]
                refine wpAnyH_take (i := 14) (v := ?_) rfl (by kernel_rfl) (by kernel_rfl) (by kernel_rfl) (fun _ _ _ h => h) (Or.inl ⟨by kernel_rfl, ?_⟩) hS4 ?_
                rotate_left
                · intro w hSw
                  try dsimp only at hSw
                  go_simp
                  try (with_reducible rfl)
                try simp only [Act.put, List.setIfInBounds_toArray, List.set_cons_zero, List.set_cons_succ]
                refine wpAnyH_ready (rs := [15]) (by kernel_rfl) (by simp) ?_
                refine AllReadyH.cons rfl (fun K hK => ?_) AllReadyH.nil
                go_simp
                refine hK.out _ _ (HSV.out _ ((Below.heap_setCell w7 ⟨r, 2, none⟩ _ _ HAA.out.2.2.2.2.1).trans hbz)) (fun hS5 => ?_)
                clear hK K
                try simp only [Act.put, List.setIfInBounds_toArray, List.set_cons_zero, List.set_cons_succ]
                refine wpAnyH_done (by kernel_rfl) ?_ _
                try simp only [Act.put, List.setIfInBounds_toArray, List.set_cons_zero, List.set_cons_succ, List.getElem_toArray, List.getElem_cons_succ, List.getElem_cons_zero]
                clear hS0 hS1 hS2 hS3 hS4 hS5 hbz hc1 hf1
                go_wp2_with fail
                go_meet
                have hfr : Fr w (w7.setCell ⟨r, 2, none⟩ (.slice (some ⟨g1, 0, none⟩) (gl.length + 1) cap)) X := ((Fr.ofUp HC.out.2.1).same HR9.out.2.2.2.1).trans HT.out.2.2.2 (fun x hx h => by
                  rcases h with h | h
                  · exact h
                  · have := HC.out.2.1.size; omega)
                refine Lib.hid ⟨ds.length, ?_⟩
                rw [HDA2.out]
                refine ⟨_, _, _, _, HT.out.1, HT.out.2.1, HT.out.2.2.1, hfr, fun x hx => ?_, (Below.heap_setCell w7 ⟨r, 2, none⟩ _ _ HAA.out.2.1).trans (HBA.out.trans HR9.out.2.2.2.2.1), ⟨by simp; exact H5.out.1, fun p hp => ?_⟩, ?_, by simp, ?_, fun hx => ?_⟩
                · have h1 := HC.out.2.1.size
                  have h2 := HR9.out.2.2.2.1.size
                  have h3 := HT.out.2.2.2.size
                  rcases hx with (hx | hx) | hx
                  · exact .inl hx
                  · exact .inr ⟨by omega, by omega⟩
                  · exact .inr ⟨by omega, hx.2⟩
                · rcases List.mem_append.1 hp with hp | hp
                  · have := H5.out.2 p hp; omega
                  · rw [List.mem_singleton] at hp; rw [hp]; simp; omega
                · rw [List.getD_eq_getElem?_getD, List.getElem?_append_right (Nat.le_refl _)]
                  simp
                · have hpn : ∀ (ds' : BDl) (i : Nat), (∀ p ∈ ds', p.1 ≠ cl) → placeZ (ds' ++ [(cl, (⟨sd.kind, sd.top, 0, 0, []⟩ : DS))]) cl i = ((i + ds'.length : Nat) : Int) := fun ds' => by
                    induction ds' with
                    | nil => intro i _; show (if cl = cl then _ else _) = _; rw [if_pos rfl]; simp
                    | cons p r ih =>
                      intro i h
                      show (if p.1 = cl then _ else placeZ (r ++ _) cl (i + 1)) = _
                      rw [if_neg (h p (by simp)), ih (i + 1) (fun q hq => h q (by simp [hq]))]
                      congr 1
                      simp
                      omega
                  rw [hpn ds 0 HNO.out, Nat.zero_add]
                · have h1 := HC.out.2.2.2
                  have h3 := (Array.getElem?_eq_some_iff.1 HC.out.2.2.1).1
                  have h4 := HAA.out.1
                  rcases hx with (hx | hx) | hx
                  · have := (H4.out _ hx).2; omega
                  · omega
                  · omega
      case rest =>
        obtain ⟨w5, hw5⟩ : ∃ x, wc = x := ⟨_, rfl⟩
        rw [hw5] at hcut ⊢
        clear hw5
        obtain ⟨j, Nv5, Cv5, gl5, X5, p1, p2, p3, p4, p5, p6, p7, p8, p9, p10, p11⟩ := hcut.out
        have HE := HE0.out
        rw [p10, Int.toNat_natCast] at HE
        obtain ⟨ds1, hds1⟩ : ∃ x, docAdd ds cl sd = x := ⟨_, rfl⟩
        rw [hds1] at HE p1 p2 p7 p8 p9 p10
        have HEE := Lib.hid HE
        clear HE hds1 b0 b1
        have hji : (j : Int) < ds1.length := by omega
        have hj0 : (0 : Int) ≤ j := by omega
        have HX5 := Lib.hid (show ∀ k, X5 k → B ≤ k ∧ k < w5.heap.size from fun x hx => XG.ge H4.out p4.size HB.out x (p5 x hx))
        obtain ⟨A2, c2, hcv, hrow2, _⟩ := own_row (f := fun k => .pointer (some ⟨(gl5.getD k g0).1, 0, none⟩)) p1.own2 (fun k hk => ptr_at hk)
        rw [p2.len] at hcv hrow2
        obtain ⟨b2, off2, hA2, x2⟩ := hrow2 j p9
        dsimp only at x2
        have HPL5 : Hid (∀ W, Up w5 W → Calls Try.prog 42 #[.pointer (some ⟨r, 0, none⟩), .int .i64 cl] W fun e w' => e = .returned (.int .i64 (j : Int)) ∧ w' = W) := Lib.hid (fun W u => by
          have := place_any B r _ Nv5 Cv5 ds1 gl5 cl W (p1.keep (u.block r p1.lt) (fun k e => u.block k (p1.own1.lt k e).2) (fun k e => u.block k (p1.own2.lt k e).2)) (by have := p7.1; omega)
          rw [p10] at this
          exact this)
        have k2 := p1.k2
        rw [hcv, hA2] at k2
        have hU : Up w5 w5.drew := (Up.refl w5).drew
        have h1d := p1.keep (hU.block r p1.lt) (fun k e => hU.block k (p1.own1.lt k e).2) (fun k e => hU.block k (p1.own2.lt k e).2)
        have h2d := p2.keep (fun i hi k hk => hU.block k ((p2.cell i hi).ft_lt hk).2)
        have hkey := getD_mem p9
        have HBG := Lib.hid (rbegin_any (gl5.getD j g0).1 B (ds1.getD j d0).2 (gl5.getD j g0).2 t k cl v w5.drew (h2d.cell j p9) (by omega) (by have := (p7.2 _ hkey).2; omega))
        have hfew := DS.begin_few (ds1.getD j d0).2 t k cl v
        have HFW := Lib.hid (show Few (docTurn ds1 j ((ds1.getD j d0).2.begin t k cl v).2) (KK + 1) from by
          refine ⟨by unfold docTurn; rw [List.length_set]; exact p7.1, fun q hq => ?_⟩
          rcases turn_mem p9 hq with rfl | hq
          · have := (p7.2 _ hkey).2.1
            exact ⟨by show (DS.begin _ _ _ _ _).2.L.length ≤ _; omega, by show 0 ≤ (DS.begin _ _ _ _ _).2.now; omega, by show (DS.begin _ _ _ _ _).2.now ≤ _; omega⟩
          · exact p7.2 q hq)
        have HTN := Lib.hid (fun w' Lv' hd hf => doc_turn (w' := w') (Lv' := Lv') h1d h2d p3 HX5.out (Nat.le_trans HB.out p4.size) p9 hd hf HFW.out)
        have HS2 := Lib.hid (show ∀ k, FtD (gl5.getD j g0) k → k ≠ r ∧ k ≠ b2 ∧ k ≠ w.heap.size from fun k hk => ⟨(p2.ft j p9 k hk).2.1, fun e => (p2.ft j p9 k hk).2.2.2 (by rw [hcv, hA2, e]; rfl), fun e => p11 (by rw [← e]; exact (p2.ft j p9 k hk).1)⟩)
        have HBL := Lib.hid (And.intro p1.lt (And.intro (cell_lt x2) (Array.getElem?_eq_some_iff.1 p6).1))
        have HFR := Lib.hid p4
        have HXS := Lib.hid p5
        have d0' := cell_of_row _ _ 0 _ _ _ p6
        have d1' := cell_of_row _ _ 1 _ _ _ p6
        have d2' := cell_of_row _ _ 2 _ _ _ p6
        simp only [List.getElem?_toArray, List.getElem?_cons_zero, List.getElem?_cons_succ] at d0' d1' d2'
        generalize (ds1.getD j d0).2 = D at *
        generalize hgj : gl5.getD j g0 = p at *
        obtain ⟨g, lv⟩ := p
        dsimp only at x2 HBG HTN
        generalize hev : (D.begin t k cl v).1 = ev at *
        generalize hDD : (D.begin t k cl v).2 = D' at *
        have hSS : w5.drew.cell? ⟨r, 2, none⟩ = some (.slice (some ⟨b2, off2, none⟩) ds1.length c2) ∧ w5.drew.cell? ⟨b2, off2 + j, none⟩ = some (.pointer (some ⟨g, 0, none⟩)) ∧ w5.drew.cell? ⟨w.heap.size, 0, none⟩ = some (.int .i64 k) ∧ w5.drew.cell? ⟨w.heap.size, 1, none⟩ = some (.int .i64 cl) ∧ w5.drew.cell? ⟨w.heap.size, 2, none⟩ = some (.int .i64 v) := ⟨k2, x2, d0', d1', d2'⟩
        have HSS := Lib.hid hSS
        clear p1 p2 p3 p4 p5 p6 p7 p8 p9 p10 p11 h1d h2d hrow2 hcv hA2 hU hkey hfew hgj hev hDD k2 x2 d0' d1' d2'
        go_upto_region 11 with fail
        refine wp_region_held_drew (S := fun w' => w'.cell? ⟨r, 2, none⟩ = some (.slice (some ⟨b2, off2, none⟩) ds1.length c2) ∧ w'.cell? ⟨b2, off2 + j, none⟩ = some (.pointer (some ⟨g, 0, none⟩)) ∧ w'.cell? ⟨w.heap.size, 0, none⟩ = some (.int .i64 k) ∧ w'.cell? ⟨w.heap.size, 1, none⟩ = some (.int .i64 cl) ∧ w'.cell? ⟨w.heap.size, 2, none⟩ = some (.int .i64 v)) (by kernel_rfl) hSS (fun hS0 => ?_)
        clear hSS
        refine wpAnyH_take (i := 0) (v := ?_) rfl (by kernel_rfl) (by kernel_rfl) (by kernel_rfl) (fun _ _ _ h => h) (Or.inl ⟨by kernel_rfl, ?_⟩) hS0 ?_
        rotate_left
        · intro w hSw
          try dsimp only at hSw
          go_simp
          try (with_reducible rfl)
        try simp only [Act.put, List.setIfInBounds_toArray, List.set_cons_zero, List.set_cons_succ]
        refine wpAnyH_take (i := 1) (v := ?_) rfl (by kernel_rfl) (by kernel_rfl) (by kernel_rfl) (fun _ _ _ h => h) (Or.inl ⟨by kernel_rfl, ?_⟩) hS0 ?_
        rotate_left
        · intro w hSw
          try dsimp only at hSw
          go_simp
          try (with_reducible rfl)
        try simp only [Act.put, List.setIfInBounds_toArray, List.set_cons_zero, List.set_cons_succ]
        refine wpAnyH_take (i := 2) (v := ?_) rfl (by kernel_rfl) (by kernel_rfl) (by kernel_rfl) (fun _ _ _ h => h) (Or.inl ⟨by kernel_rfl, ?_⟩) hS0 ?_
        rotate_left
        · intro w hSw
          try dsimp only at hSw
          go_simp
          try (with_reducible rfl)
        try simp only [Act.put, List.setIfInBounds_toArray, List.set_cons_zero, List.set_cons_succ]
        refine wpAnyH_take (i := 3) (v := ?_) rfl (by kernel_rfl) (by kernel_rfl) (by kernel_rfl) (fun _ _ _ h => h) (Or.inl ⟨by kernel_rfl, ?_⟩) hS0 ?_
        rotate_left
        · intro w hSw
          try dsimp only at hSw
          go_simp
          try (with_reducible rfl)
        try simp only [Act.put, List.setIfInBounds_toArray, List.set_cons_zero, List.set_cons_succ]
        refine wpAnyH_take (i := 4) (v := ?_) rfl (by kernel_rfl) (by kernel_rfl) (by kernel_rfl) (fun _ _ _ h => h) (Or.inl ⟨by kernel_rfl, ?_⟩) hS0 ?_
        rotate_left
        · intro w hSw
          try dsimp only at hSw
          go_simp
          try (with_reducible rfl)
        try simp only [Act.put, List.setIfInBounds_toArray, List.set_cons_zero, List.set_cons_succ]
        refine wpAnyH_take (i := 5) (v := ?_) rfl (by kernel_rfl) (by kernel_rfl) (by kernel_rfl) (fun _ _ _ h => h) (Or.inl ⟨by kernel_rfl, ?_⟩) hS0 ?_
        rotate_left
        · intro w hSw
          try dsimp only at hSw
          go_simp
          try (with_reducible rfl)
        try simp only [Act.put, List.setIfInBounds_toArray, List.set_cons_zero, List.set_cons_succ]
        refine wpAnyH_take (i := 6) (v := ?_) rfl (by kernel_rfl) (by kernel_rfl) (by kernel_rfl) (fun _ _ _ h => h) (Or.inl ⟨by kernel_rfl, ?_⟩) hS0 ?_
        rotate_left
        · intro w hSw
          try dsimp only at hSw
          go_simp
          try (with_reducible rfl)
        try simp only [Act.put, List.setIfInBounds_toArray, List.set_cons_zero, List.set_cons_succ]
        refine wpAnyH_take (i := 10) (v := ?_) rfl (by kernel_rfl) (by kernel_rfl) (by kernel_rfl) (fun _ _ _ h => h) (Or.inl ⟨by kernel_rfl, ?_⟩) hS0 ?_
        rotate_left
        · intro w hSw
          try dsimp only at hSw
          go_simp
          try (with_reducible rfl)
        try simp only [Act.put, List.setIfInBounds_toArray, List.set_cons_zero, List.set_cons_succ]
        refine wpAnyH_take (i := 11) (v := ?_) rfl (by kernel_rfl) (by kernel_rfl) (by kernel_rfl) (fun _ _ _ h => h) (Or.inl ⟨by kernel_rfl, ?_⟩) hS0 ?_
        rotate_left
        · intro w hSw
          try dsimp only at hSw
          go_simp
          try (with_reducible rfl)
        try simp only [Act.put, List.setIfInBounds_toArray, List.set_cons_zero, List.set_cons_succ]
        refine wpAnyH_ready (rs := [7]) (by kernel_rfl) (by simp) ?_
        refine AllReadyH.cons rfl (fun K hK => ?_) AllReadyH.nil
        go_simp
        refine (HPL5.out _ (Up.refl w5).drew).mono ?_
        rintro e w6 ⟨rfl, rfl⟩
        refine hK.out _ _ hS0 (fun hS1 => ?_)
        clear hK K
        try simp only [Act.put, List.setIfInBounds_toArray, List.set_cons_zero, List.set_cons_succ]
        refine wpAnyH_take (i := 8) (v := ?_) rfl (by kernel_rfl) (by kernel_rfl) (by kernel_rfl) (fun _ _ _ h => h) (Or.inl ⟨by kernel_rfl, ?_⟩) hS1 ?_
        rotate_left
        · intro w hSw
          try dsimp only at hSw
          go_simp
          try (with_reducible rfl)
        try simp only [Act.put, List.setIfInBounds_toArray, List.set_cons_zero, List.set_cons_succ]
        refine wpAnyH_take (i := 9) (v := ?_) rfl (by kernel_rfl) (by kernel_rfl) (by kernel_rfl) (fun _ _ _ h => h) (Or.inl ⟨by kernel_rfl, ?_⟩) hS1 ?_
        rotate_left
        · intro w hSw
          try dsimp only at hSw
          go_simp
          try (with_reducible rfl)
        try simp only [Act.put, List.setIfInBounds_toArray, List.set_cons_zero, List.set_cons_succ]
        refine wpAnyH_ready (rs := [12]) (by kernel_rfl) (by simp) ?_
        refine AllReadyH.cons rfl (fun K hK => ?_) AllReadyH.nil
        go_simp
        refine HBG.out.mono ?_
        rintro e w7 ⟨rfl, Lv', hd, hf⟩
        have HT := Lib.hid (HTN.out w7 Lv' hd hf)
        have hbl : ∀ k, k < w5.heap.size → ¬ FtD (g, lv) k → w7.heap[k]? = w5.drew.heap[k]? := fun k hk hn => hf.block k hk (fun e => hn (.inl e)) (fun e => hn (.inr e))
        have hba := hbl w.heap.size HBL.out.2.2 (fun h => (HS2.out _ h).2.2 rfl)
        have hS4 := And.intro ((cellE (hbl r HBL.out.1 (fun h => (HS2.out r h).1 rfl))).trans HSS.out.1) (And.intro ((cellE (hbl b2 HBL.out.2.1 (fun h => (HS2.out b2 h).2.1 rfl))).trans HSS.out.2.1) (And.intro ((cellE hba).trans HSS.out.2.2.1) (And.intro ((cellE hba).trans HSS.out.2.2.2.1) ((cellE hba).trans HSS.out.2.2.2.2))))
        clear hd hf hbl hba
        refine hK.out _ _ hS4 (fun hS2 => ?_)
        clear hK K
        try simp only [Act.put, List.setIfInBounds_toArray, List.set_cons_zero, List.set_cons_succ]
        refine wpAnyH_take (i := 13) (v := ?_) rfl (by kernel_rfl) (by kernel_rfl) (by kernel_rfl) (fun _ _ _ h => h) (Or.inl ⟨by kernel_rfl, ?_⟩) hS2 ?_
        rotate_left
        · intro w hSw
          try dsimp only at hSw
          go_simp
          try (with_reducible rfl)
        try simp only [Act.put, List.setIfInBounds_toArray, List.set_cons_zero, List.set_cons_succ]
        refine wpAnyH_done (by kernel_rfl) ?_ _
        try simp only [Act.put, List.setIfInBounds_toArray, List.set_cons_zero, List.set_cons_succ, List.getElem_toArray, List.getElem_cons_succ, List.getElem_cons_zero]
        go_wp2_with fail
        go_ret
        have hfr : Fr w w7 X := HFR.out.trans ((Fr.ofUp (Up.refl w5).drew).same HT.out.2) (fun x hx h => by
          rcases HXS.out x h with h | h
          · exact h
          · omega)
        refine ⟨by rw [HEE.out]; rfl, ?_, hfr⟩
        rw [HEE.out]
        refine HT.out.1.more (Nat.le_refl _) (fun x hx => ?_) (XG.ge H4.out hfr.size HB.out)
        rcases hx with hx | hx
        · rcases HXS.out x hx with h | h
          · exact .inl h
          · exact .inr ⟨h.1, Nat.lt_of_lt_of_le h.2 HT.out.2.size⟩
        · exact .inr ⟨Nat.le_trans HFR.out.size hx.1, hx.2⟩

end Go.Proofs.Ytpapcheliohacaa
