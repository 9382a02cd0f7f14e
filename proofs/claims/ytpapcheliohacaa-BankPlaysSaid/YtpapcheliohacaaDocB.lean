/-
  The document's cell: Begin.
-/
import Derived.Test.YtpapcheliohacaaDocS
import Derived.Deep.RegionLaw
import Derived.BigRegion
set_option linter.unusedVariables false
set_option linter.unusedSimpArgs false
namespace Go.Proofs.Ytpapcheliohacaa
open Go.RowKit

theorem news1 (w : World) (news : List Value) (e : TypeId) : ∀ j u, news[j]? = some u → (w.alloc (.cells news.toArray e)).drew.cell? ((⟨w.heap.size, 0, none⟩ : Addr).add j) = some u := fun j u h => cells_new w news e j u h
theorem infoAct : Try.prog.info? 71 = some Try.t71 := by kernel_rfl
theorem info_partsA : ∃ i, Try.prog.info? 71 = some i ∧ i.zero = some (.agg #[.int .i64 0, .int .i64 0, .int .i64 0, .int .i64 0, .int .i64 0, .int .i64 0, .int .i64 0]) ∧ i.size = 7 ∧ i.bytes = 56 := ⟨_, infoAct, by kernel_rfl, by kernel_rfl, by kernel_rfl⟩

set_option maxRecDepth 10000 in
set_option maxHeartbeats 4000000 in
theorem rbegin_any (r B : Nat) (D : DS) (Lv : Value) (t k cl v : Int) (w : World) (H : DocIs w r B D Lv) (hL : D.L.length ≤ 1000) (hn : 0 ≤ D.now ∧ D.now ≤ 1000000) :
    Calls Try.prog 13 #[.pointer (some ⟨r, 0, none⟩), .int .i64 t, .agg #[.int .i64 k, .int .i64 cl, .int .i64 v]] w fun e w' => e = .returned (.int .i64 (D.begin t k cl v).1) ∧ ∃ Lv', DocIs w' r B (D.begin t k cl v).2 Lv' ∧ DFrame w w' r Lv Lv' := by
  have hUb : Up w (w.alloc (.cells #[.int .i64 k, .int .i64 cl, .int .i64 v] 31)) := (Up.refl w).alloc _
  have hbx := heap_alloc_new w (.cells #[.int .i64 k, .int .i64 cl, .int .i64 v] 31)
  have HF := Lib.hid (show DocIs (w.alloc (.cells #[.int .i64 k, .int .i64 cl, .int .i64 v] 31)) r B D Lv ∧ DFrame w (w.alloc (.cells #[.int .i64 k, .int .i64 cl, .int .i64 v] 31)) r Lv Lv from ⟨H.up hUb, DFrame.ofUp hUb⟩)
  have HLT := Lib.hid H.lt
  have HDL := Lib.hid (show ∀ k, Lv.ownBlock = some k → k < w.heap.size from fun k e => (H.own.lt k e).2)
  obtain ⟨W, hW⟩ : ∃ x, w.alloc (.cells #[.int .i64 k, .int .i64 cl, .int .i64 v] 31) = x := ⟨_, rfl⟩
  rw [hW] at hUb hbx HF
  have HW := Lib.hid hW
  have HU := Lib.hid hUb
  have b0 := cell_of_row _ _ 0 _ _ _ hbx
  have b2 := cell_of_row _ _ 2 _ _ _ hbx
  simp only [List.getElem?_toArray, List.getElem?_cons_zero, List.getElem?_cons_succ] at b0 b2
  have HBX := Lib.hid hbx
  clear hW hUb hbx
  by_cases h1 : t < 0
  · have e0 : D.begin t k cl v = (1, D) := by unfold DS.begin; rw [if_pos (.inl h1)]
    rw [e0]
    clear e0 H
    go_enter Try.func13, Try.ntmps13
    go_wp2_with fail
    rw [HW.out]
    go_wp2_with fail
    go_ret
    exact ⟨rfl, Lv, HF.out⟩
  by_cases h2 : 7 < t
  · have e0 : D.begin t k cl v = (1, D) := by unfold DS.begin; rw [if_pos (.inr (.inl h2))]
    rw [e0]
    clear e0 H
    go_enter Try.func13, Try.ntmps13
    go_wp2_with fail
    rw [HW.out]
    go_wp2_with fail
    go_ret
    exact ⟨rfl, Lv, HF.out⟩
  by_cases h3 : k < 1
  · have e0 : D.begin t k cl v = (1, D) := by unfold DS.begin; rw [if_pos (.inr (.inr (.inl h3)))]
    rw [e0]
    clear e0 H
    go_enter Try.func13, Try.ntmps13
    go_wp2_with fail
    rw [HW.out]
    go_wp2_with fail
    go_ret
    exact ⟨rfl, Lv, HF.out⟩
  by_cases h4 : 2 < k
  · have e0 : D.begin t k cl v = (1, D) := by unfold DS.begin; rw [if_pos (.inr (.inr (.inr h4)))]
    rw [e0]
    clear e0 H
    go_enter Try.func13, Try.ntmps13
    go_wp2_with fail
    rw [HW.out]
    go_wp2_with fail
    go_ret
    exact ⟨rfl, Lv, HF.out⟩
  have HFI := Lib.hid (find_any r B D Lv t W HF.out.1 hL)
  have HBG := Lib.hid (show D.begin t k cl v = if 0 ≤ findZ D.L t 0 then (12, D) else (0, { D with now := D.now + 1, L := D.L ++ [⟨t, k, cl, clampT v D.top, D.now + 1, -1, D.value⟩] }) from by unfold DS.begin; rw [if_neg (by omega)])
  generalize findZ D.L t 0 = z at *
  by_cases hz : 0 ≤ z
  · have e0 := HBG.out.trans (if_pos hz)
    rw [e0]
    clear e0 H
    go_enter Try.func13, Try.ntmps13
    go_wp2_with fail
    rw [HW.out]
    go_wp2_with fail
    refine HFI.out.mono ?_
    rintro e w1 ⟨rfl, rfl⟩
    go_wp2_with fail
    go_ret
    exact ⟨rfl, Lv, HF.out⟩
  have e0 := HBG.out.trans (if_neg hz)
  rw [e0]
  have HCL := Lib.hid (rclamp_any v D.top)
  generalize clampT v D.top = V at *
  have k1 := HF.out.1.k1
  have HS0 := Lib.hid (And.intro b2 k1)
  clear e0 H
  go_enter Try.func13, Try.ntmps13
  go_wp2_with fail
  rw [HW.out]
  go_wp2_with fail
  refine HFI.out.mono ?_
  rintro e w1 ⟨rfl, rfl⟩
  go_wp2_with fail
  clear b0 k1
  have hbr : r ≠ w.heap.size := by have := HLT.out; omega
  have fb2 := frozen_of_row _ _ 2 _ _ HBX.out
  have hs2 : ∀ x : Value, (w1.setCell ⟨w.heap.size, 2, none⟩ x).cell? ⟨r, 1, none⟩ = some (.int .i64 D.top) := fun x => (cellE (Below.heap_setCell w1 ⟨w.heap.size, 2, none⟩ x r hbr)).trans HS0.out.2
  have HS2 := Lib.hid hs2
  clear hs2
  refine wp_region_held_drew (S := fun w' => w'.cell? ⟨r, 1, none⟩ = some (.int .i64 D.top)) (by kernel_rfl) HS0.out.2 (fun hH0 => ?_)
  refine wpAnyH_take (i := 0) (v := ?_) rfl (by kernel_rfl) (by kernel_rfl) (by kernel_rfl) (fun _ _ _ h => h) (Or.inl ⟨by kernel_rfl, ?_⟩) hH0 ?_
  rotate_left
  · intro w hSw
    try dsimp only at hSw
    go_simp
    try (with_reducible rfl)
  try simp only [Act.put, List.setIfInBounds_toArray, List.set_cons_zero, List.set_cons_succ]
  refine wpAnyH_take (i := 2) (v := ?_) rfl (by kernel_rfl) (by kernel_rfl) (by kernel_rfl) (fun _ _ _ h => h) (Or.inl ⟨by kernel_rfl, ?_⟩) hH0 ?_
  rotate_left
  · intro w hSw
    try dsimp only at hSw
    go_simp
    try (with_reducible rfl)
  try simp only [Act.put, List.setIfInBounds_toArray, List.set_cons_zero, List.set_cons_succ]
  refine wpAnyH_take (i := 3) (v := ?_) rfl (by kernel_rfl) (by kernel_rfl) (by kernel_rfl) (fun _ _ _ h => h) (Or.inl ⟨by kernel_rfl, ?_⟩) hH0 ?_
  rotate_left
  · intro w hSw
    try dsimp only at hSw
    go_simp
    try (with_reducible rfl)
  try simp only [Act.put, List.setIfInBounds_toArray, List.set_cons_zero, List.set_cons_succ]
  refine wpAnyH_take (i := 4) (v := ?_) rfl (by kernel_rfl) (by kernel_rfl) (by kernel_rfl) (fun _ _ _ h => h) (Or.inl ⟨by kernel_rfl, ?_⟩) hH0 ?_
  rotate_left
  · intro w hSw
    try dsimp only at hSw
    go_simp
    try (with_reducible rfl)
  try simp only [Act.put, List.setIfInBounds_toArray, List.set_cons_zero, List.set_cons_succ]
  refine wpAnyH_take (i := 5) (v := ?_) rfl (by kernel_rfl) (by kernel_rfl) (by kernel_rfl) (fun _ _ _ h => h) (Or.inl ⟨by kernel_rfl, ?_⟩) hH0 ?_
  rotate_left
  · intro w hSw
    try dsimp only at hSw
    go_simp
    try (with_reducible rfl)
  try simp only [Act.put, List.setIfInBounds_toArray, List.set_cons_zero, List.set_cons_succ]
  refine wpAnyH_ready (rs := [1]) (by kernel_rfl) (by simp) ?_
  refine AllReadyH.cons rfl (fun K hK => ?_) AllReadyH.nil
  go_simp
  refine hK.out _ _ hH0 (fun hH1 => ?_)
  clear hK K
  try simp only [Act.put, List.setIfInBounds_toArray, List.set_cons_zero, List.set_cons_succ]
  refine wpAnyH_ready (rs := [6]) (by kernel_rfl) (by simp) ?_
  refine AllReadyH.cons rfl (fun K hK => ?_) AllReadyH.nil
  go_simp
  refine (HCL.out _).mono ?_
  rintro e w2 ⟨rfl, rfl⟩
  refine hK.out _ _ hH1 (fun hH2 => ?_)
  clear hK K
  try simp only [Act.put, List.setIfInBounds_toArray, List.set_cons_zero, List.set_cons_succ]
  refine wpAnyH_take (i := 7) (v := ?_) rfl (by kernel_rfl) (by kernel_rfl) (by kernel_rfl) (fun _ _ _ h => h) (Or.inl ⟨by kernel_rfl, ?_⟩) hH2 ?_
  rotate_left
  · intro w hSw
    try dsimp only at hSw
    go_simp
    try (with_reducible rfl)
  try simp only [Act.put, List.setIfInBounds_toArray, List.set_cons_zero, List.set_cons_succ]
  refine wpAnyH_ready (rs := [8]) (by kernel_rfl) (by simp) ?_
  refine AllReadyH.cons rfl (fun K hK => ?_) AllReadyH.nil
  go_simp
  refine hK.out _ _ (HS2.out _) (fun hH3 => ?_)
  clear hK K
  try simp only [Act.put, List.setIfInBounds_toArray, List.set_cons_zero, List.set_cons_succ]
  refine wpAnyH_done (by kernel_rfl) ?_ _
  try simp only [Act.put, List.setIfInBounds_toArray, List.set_cons_zero, List.set_cons_succ, List.getElem_toArray, List.getElem_cons_succ, List.getElem_cons_zero]
  clear hH0 hH1 hH2 hH3 fb2
  have hne5 : ∀ k, k ≠ w.heap.size → ((w1.setCell ⟨w.heap.size, 2, none⟩ (.int .i64 V)).drew).heap[k]? = w1.heap[k]? := fun k hk => Below.heap_setCell w1 ⟨w.heap.size, 2, none⟩ _ k hk
  have c0 : ((w1.setCell ⟨w.heap.size, 2, none⟩ (.int .i64 V)).drew).cell? ⟨w.heap.size, 0, none⟩ = some (.int .i64 k) := (World.cell?_setCell_other _ _ _ _ (by simp)).trans (cell_of_row _ _ 0 _ _ _ HBX.out)
  have c1 : ((w1.setCell ⟨w.heap.size, 2, none⟩ (.int .i64 V)).drew).cell? ⟨w.heap.size, 1, none⟩ = some (.int .i64 cl) := (World.cell?_setCell_other _ _ _ _ (by simp)).trans (cell_of_row _ _ 1 _ _ _ HBX.out)
  have c2 : ((w1.setCell ⟨w.heap.size, 2, none⟩ (.int .i64 V)).drew).cell? ⟨w.heap.size, 2, none⟩ = some (.int .i64 V) := World.cell?_setCell_same _ _ _ b2
  have H5 : DocIs ((w1.setCell ⟨w.heap.size, 2, none⟩ (.int .i64 V)).drew) r B D Lv := HF.out.1.keep (hne5 r hbr) fun k e => hne5 k (fun e2 => by
    rcases HF.out.2.ob with h | h
    · have := HF.out.1.own.lt k e
      have := HDL.out k e
      omega
    · have := HDL.out k e
      omega)
  have F5 : DFrame w ((w1.setCell ⟨w.heap.size, 2, none⟩ (.int .i64 V)).drew) r Lv Lv := (HF.out.2.store 2 _ (.inr (Nat.le_refl _))).trans (DFrame.ofUp (Up.refl _).drew)
  clear hne5 b2
  generalize (w1.setCell ⟨w.heap.size, 2, none⟩ (.int .i64 V)).drew = W5 at *
  have hw : wrap64 (D.now + 1) = D.now + 1 := IntWalk.wrap64_in _ (by omega)
  have k3 := H5.k3
  have f3 := H5.fz 3
  have H6 := H5.setNow (D.now + 1)
  have F6 := F5.store (b := r) 3 (.int .i64 (D.now + 1)) (.inl rfl)
  have d0 : (W5.setCell ⟨r, 3, none⟩ (.int .i64 (D.now + 1))).cell? ⟨w.heap.size, 0, none⟩ = some (.int .i64 k) := (cellE (Below.heap_setCell W5 ⟨r, 3, none⟩ _ _ (fun e => hbr e.symm))).trans c0
  have d1 : (W5.setCell ⟨r, 3, none⟩ (.int .i64 (D.now + 1))).cell? ⟨w.heap.size, 1, none⟩ = some (.int .i64 cl) := (cellE (Below.heap_setCell W5 ⟨r, 3, none⟩ _ _ (fun e => hbr e.symm))).trans c1
  have d2 : (W5.setCell ⟨r, 3, none⟩ (.int .i64 (D.now + 1))).cell? ⟨w.heap.size, 2, none⟩ = some (.int .i64 V) := (cellE (Below.heap_setCell W5 ⟨r, 3, none⟩ _ _ (fun e => hbr e.symm))).trans c2
  obtain ⟨W6, hW6⟩ : ∃ x, W5.setCell ⟨r, 3, none⟩ (.int .i64 (D.now + 1)) = x := ⟨_, rfl⟩
  rw [hW6] at H6 F6 d0 d1 d2
  have HD := Lib.hid (And.intro d0 (And.intro d1 d2))
  have HDO := Lib.hid H6
  have HFR := Lib.hid F6
  clear c0 c1 c2 H5 F5 H6 F6 d0 d1 d2
  go_wp2_with fail
  clear k3 f3
  obtain ⟨i0, hi, hz0, hz1, hz2⟩ := info_partsA
  have HI := Lib.hid hi
  have HZ0 := Lib.hid hz0
  have HZ1 := Lib.hid hz1
  have HZ2 := Lib.hid hz2
  have HSZ := Lib.hid (show B ≤ W6.heap.size by have := HDO.out.ge; have := HDO.out.lt; omega)
  have HX := Lib.hid (fun (W7 w7 : World) (g1 cap : Nat) (hU : Up W6 W7) => doc_append (W := W7) (w1 := w7) (g1 := g1) (cap := cap) (a := ⟨t, k, cl, V, D.now + 1, -1, D.value⟩) HDO.out hU)
  dsimp only at HX
  have HOW := Lib.hid HDO.out.own
  dsimp only at HOW
  obtain ⟨d0, d1, d2⟩ := HD.out
  have k2 := HDO.out.k2
  have k3 := HDO.out.k3
  have k4 := HDO.out.k4
  dsimp only at k2 k3 k4
  have k4a : (W6.alloc (.cells #[.int .i64 t, .int .i64 k, .int .i64 cl, .int .i64 V, .int .i64 (D.now + 1), .int .i64 (-1), .int .i64 D.value] 71)).cell? ⟨r, 4, none⟩ = some Lv := (HDO.out.up ((Up.refl W6).alloc _)).k4
  have HLR := Lib.hid HDO.out.lt
  have HLB := Lib.hid (cell_lt d0)
  have HNB := Lib.hid (show Lv.ownBlock ≠ some w.heap.size ∧ Lv.ownBlock ≠ some r from ⟨fun e => by have := HDL.out _ e; omega, HDO.out.apart⟩)
  have HNB2 := Lib.hid (show w.heap.size ≠ r from fun e => hbr e.symm)
  have hSS : W6.drew.cell? ⟨w.heap.size, 0, none⟩ = some (.int .i64 k) ∧ W6.drew.cell? ⟨w.heap.size, 1, none⟩ = some (.int .i64 cl) ∧ W6.drew.cell? ⟨w.heap.size, 2, none⟩ = some (.int .i64 V) ∧ W6.drew.cell? ⟨r, 2, none⟩ = some (.int .i64 D.value) ∧ W6.drew.cell? ⟨r, 3, none⟩ = some (.int .i64 (D.now + 1)) := ⟨d0, d1, d2, k2, k3⟩
  have HSV := Lib.hid (fun (w' : World) (h1 : ∀ j, w'.cell? ⟨w.heap.size, j, none⟩ = W6.cell? ⟨w.heap.size, j, none⟩) (h2 : ∀ j, j ≠ 4 → w'.cell? ⟨r, j, none⟩ = W6.cell? ⟨r, j, none⟩) => (show w'.cell? ⟨w.heap.size, 0, none⟩ = some (.int .i64 k) ∧ w'.cell? ⟨w.heap.size, 1, none⟩ = some (.int .i64 cl) ∧ w'.cell? ⟨w.heap.size, 2, none⟩ = some (.int .i64 V) ∧ w'.cell? ⟨r, 2, none⟩ = some (.int .i64 D.value) ∧ w'.cell? ⟨r, 3, none⟩ = some (.int .i64 (D.now + 1)) from ⟨(h1 0).trans d0, (h1 1).trans d1, (h1 2).trans d2, (h2 2 (by decide)).trans k2, (h2 3 (by decide)).trans k3⟩))
  have hua : Up W6 (W6.alloc (.cells #[.int .i64 t, .int .i64 k, .int .i64 cl, .int .i64 V, .int .i64 (D.now + 1), .int .i64 (-1), .int .i64 D.value] 71)) := (Up.refl W6).alloc _
  generalize hnL : D.L.length = n at *
  have HNL := Lib.hid hnL
  clear hi hz0 hz1 hz2 hW6 hw hbr hnL d0 d1 d2 k2 k3
  refine wp_region_held_drew (S := fun w' => w'.cell? ⟨w.heap.size, 0, none⟩ = some (.int .i64 k) ∧ w'.cell? ⟨w.heap.size, 1, none⟩ = some (.int .i64 cl) ∧ w'.cell? ⟨w.heap.size, 2, none⟩ = some (.int .i64 V) ∧ w'.cell? ⟨r, 2, none⟩ = some (.int .i64 D.value) ∧ w'.cell? ⟨r, 3, none⟩ = some (.int .i64 (D.now + 1))) (by kernel_rfl) hSS (fun hS0 => ?_)
  clear hSS
  refine wpAnyH_take (i := 0) (v := ?_) rfl (by kernel_rfl) (by kernel_rfl) (by kernel_rfl) (fun _ _ _ h => h) (Or.inl ⟨by kernel_rfl, ?_⟩) hS0 ?_
  rotate_left
  · intro w hSw
    try dsimp only at hSw
    go_simp
    try (with_reducible rfl)
  try simp only [Act.put, List.setIfInBounds_toArray, List.set_cons_zero, List.set_cons_succ]
  refine wpAnyH_take (i := 1) (v := ?_) rfl (by kernel_rfl) (by kernel_rfl) (by kernel_rfl) (fun _ _ _ h => h) (Or.inl ⟨by kernel_rfl, ?_⟩) hS0 ?_
  rotate_left
  · intro w hSw
    try dsimp only at hSw
    go_simp
    try (with_reducible rfl)
  try simp only [Act.put, List.setIfInBounds_toArray, List.set_cons_zero, List.set_cons_succ]
  refine wpAnyH_take (i := 2) (v := ?_) rfl (by kernel_rfl) (by kernel_rfl) (by kernel_rfl) (fun _ _ _ h => h) (Or.inl ⟨by kernel_rfl, ?_⟩) hS0 ?_
  rotate_left
  · intro w hSw
    try dsimp only at hSw
    go_simp
    try (with_reducible rfl)
  try simp only [Act.put, List.setIfInBounds_toArray, List.set_cons_zero, List.set_cons_succ]
  refine wpAnyH_take (i := 3) (v := ?_) rfl (by kernel_rfl) (by kernel_rfl) (by kernel_rfl) (fun _ _ _ h => h) (Or.inl ⟨by kernel_rfl, ?_⟩) hS0 ?_
  rotate_left
  · intro w hSw
    try dsimp only at hSw
    go_simp
    try (with_reducible rfl)
  try simp only [Act.put, List.setIfInBounds_toArray, List.set_cons_zero, List.set_cons_succ]
  refine wpAnyH_take (i := 5) (v := ?_) rfl (by kernel_rfl) (by kernel_rfl) (by kernel_rfl) (fun _ _ _ h => h) (Or.inl ⟨by kernel_rfl, ?_⟩) hS0 ?_
  rotate_left
  · intro w hSw
    try dsimp only at hSw
    go_simp
    try (with_reducible rfl)
  try simp only [Act.put, List.setIfInBounds_toArray, List.set_cons_zero, List.set_cons_succ]
  refine wpAnyH_take (i := 6) (v := ?_) rfl (by kernel_rfl) (by kernel_rfl) (by kernel_rfl) (fun _ _ _ h => h) (Or.inl ⟨by kernel_rfl, ?_⟩) hS0 ?_
  rotate_left
  · intro w hSw
    try dsimp only at hSw
    go_simp
    try (with_reducible rfl)
  try simp only [Act.put, List.setIfInBounds_toArray, List.set_cons_zero, List.set_cons_succ]
  refine wpAnyH_take (i := 7) (v := ?_) rfl (by kernel_rfl) (by kernel_rfl) (by kernel_rfl) (fun _ _ _ h => h) (Or.inl ⟨by kernel_rfl, ?_⟩) hS0 ?_
  rotate_left
  · intro w hSw
    try dsimp only at hSw
    go_simp
    try (with_reducible rfl)
  try simp only [Act.put, List.setIfInBounds_toArray, List.set_cons_zero, List.set_cons_succ]
  refine wpAnyH_take (i := 8) (v := ?_) rfl (by kernel_rfl) (by kernel_rfl) (by kernel_rfl) (fun _ _ _ h => h) (Or.inl ⟨by kernel_rfl, ?_⟩) hS0 ?_
  rotate_left
  · intro w hSw
    try dsimp only at hSw
    go_simp
    try (with_reducible rfl)
  try simp only [Act.put, List.setIfInBounds_toArray, List.set_cons_zero, List.set_cons_succ]
  refine wpAnyH_take (i := 9) (v := ?_) rfl (by kernel_rfl) (by kernel_rfl) (by kernel_rfl) (fun _ _ _ h => h) (Or.inl ⟨by kernel_rfl, ?_⟩) hS0 ?_
  rotate_left
  · intro w hSw
    try dsimp only at hSw
    go_simp
    try (with_reducible rfl)
  try simp only [Act.put, List.setIfInBounds_toArray, List.set_cons_zero, List.set_cons_succ]
  refine wpAnyH_take (i := 10) (v := ?_) rfl (by kernel_rfl) (by kernel_rfl) (by kernel_rfl) (fun _ _ _ h => h) (Or.inl ⟨by kernel_rfl, ?_⟩) hS0 ?_
  rotate_left
  · intro w hSw
    try dsimp only at hSw
    go_simp
    try (with_reducible rfl)
  try simp only [Act.put, List.setIfInBounds_toArray, List.set_cons_zero, List.set_cons_succ]
  refine wpAnyH_take (i := 11) (v := ?_) rfl (by kernel_rfl) (by kernel_rfl) (by kernel_rfl) (fun _ _ _ h => h) (Or.inl ⟨by kernel_rfl, ?_⟩) hS0 ?_
  rotate_left
  · intro w hSw
    try dsimp only at hSw
    go_simp
    try (with_reducible rfl)
  try simp only [Act.put, List.setIfInBounds_toArray, List.set_cons_zero, List.set_cons_succ]
  refine wpAnyH_take (i := 12) (v := ?_) rfl (by kernel_rfl) (by kernel_rfl) (by kernel_rfl) (fun _ _ _ h => h) (Or.inl ⟨by kernel_rfl, ?_⟩) hS0 ?_
  rotate_left
  · intro w hSw
    try dsimp only at hSw
    go_simp
    try (with_reducible rfl)
  try simp only [Act.put, List.setIfInBounds_toArray, List.set_cons_zero, List.set_cons_succ]
  refine wpAnyH_take (i := 13) (v := ?_) rfl (by kernel_rfl) (by kernel_rfl) (by kernel_rfl) (fun _ _ _ h => h) (Or.inl ⟨by kernel_rfl, ?_⟩) hS0 ?_
  rotate_left
  · intro w hSw
    try dsimp only at hSw
    go_simp
    try (with_reducible rfl)
  try simp only [Act.put, List.setIfInBounds_toArray, List.set_cons_zero, List.set_cons_succ]
  refine wpAnyH_take (i := 14) (v := ?_) rfl (by kernel_rfl) (by kernel_rfl) (by kernel_rfl) (fun _ _ _ h => h) (Or.inl ⟨by kernel_rfl, ?_⟩) hS0 ?_
  rotate_left
  · intro w hSw
    try dsimp only at hSw
    go_simp
    try (with_reducible rfl)
  try simp only [Act.put, List.setIfInBounds_toArray, List.set_cons_zero, List.set_cons_succ]
  refine wpAnyH_take (i := 15) (v := ?_) rfl (by kernel_rfl) (by kernel_rfl) (by kernel_rfl) (fun _ _ _ h => h) (Or.inl ⟨by kernel_rfl, ?_⟩) hS0 ?_
  rotate_left
  · intro w hSw
    try dsimp only at hSw
    go_simp
    try (with_reducible rfl)
  try simp only [Act.put, List.setIfInBounds_toArray, List.set_cons_zero, List.set_cons_succ]
  refine wpAnyH_ready (rs := [4, 16]) (by kernel_rfl) (by simp) ?_
  refine AllReadyH.cons rfl (fun K hK => ?_) (AllReadyH.cons rfl (fun K hK => ?_) AllReadyH.nil)
  · go_simp
    refine hK.out _ _ hS0 (fun hS1 => ?_)
    clear hK K
    try simp only [Act.put, List.setIfInBounds_toArray, List.set_cons_zero, List.set_cons_succ]
    refine wpAnyH_ready (rs := [16]) (by kernel_rfl) (by simp) ?_
    refine AllReadyH.cons rfl (fun K hK => ?_) AllReadyH.nil
    go_simp
    refine hK.out _ _ (HSV.out _ (fun j => cellE (hua.block _ HLB.out)) (fun j _ => cellE (hua.block _ HLR.out))) (fun hS2 => ?_)
    clear hK K
    try simp only [Act.put, List.setIfInBounds_toArray, List.set_cons_zero, List.set_cons_succ]
    refine wpAnyH_ready (rs := [17]) (by kernel_rfl) (by simp) ?_
    refine AllReadyH.cons rfl (fun K hK => ?_) AllReadyH.nil
    refine step_append_lies _ rfl (.tmp 47) (.tmp 59) 27 rfl B 71 i0 (.agg #[.int .i64 0, .int .i64 0, .int .i64 0, .int .i64 0, .int .i64 0, .int .i64 0, .int .i64 0]) 7 56 Try.underlying27 HI.out HZ0.out HZ1.out HZ2.out rfl (by decide) _ n (dcells D.L) rfl (own_same HOW.out fun k e => ((Up.refl W6).alloc _).drew.block k (HOW.out.lt k e).2) ⟨W6.heap.size, 0, none⟩ 1 1 [.int .i64 t, .int .i64 k, .int .i64 cl, .int .i64 V, .int .i64 (D.now + 1), .int .i64 (-1), .int .i64 D.value] rfl rfl (news1 W6 _ _) (by simp [Value.oneCell']) (by decide) (by unfold maxLen; omega) (by omega) (by have := HSZ.out; simp; omega) _ rfl ?_
    intro g1 cap w7 hown7 hg7 hat7 hlt7
    obtain ⟨⟨hc4, hf4⟩, HT0, HK0⟩ := HX.out _ _ _ _ ((Up.refl W6).alloc _).drew hown7 hg7 (hat7.imp id (fun e => by rw [e]; simp))
    have hk7 : ∀ k, k < W6.heap.size → Lv.ownBlock ≠ some k → w7.heap[k]? = W6.heap[k]? := fun k h1 h2 => (hg7.block k (Nat.lt_of_lt_of_le h1 ((Up.refl W6).alloc _).drew.size) (fun e => h2 e.symm)).trans (((Up.refl W6).alloc _).drew.block k h1)
    have HT := Lib.hid HT0
    have HK := Lib.hid HK0
    have hb7 := hk7 _ HLB.out HNB.out.1
    have hr7 := hk7 _ HLR.out HNB.out.2
    clear HT0 HK0 hown7 hg7 hat7 hlt7 hk7
    refine hK.out _ _ (HSV.out _ (fun j => cellE hb7) (fun j _ => cellE hr7)) (fun hS3 => ?_)
    clear hK K
    try simp only [Act.put, List.setIfInBounds_toArray, List.set_cons_zero, List.set_cons_succ]
    refine wpAnyH_take (i := 18) (v := ?_) rfl (by kernel_rfl) (by kernel_rfl) (by kernel_rfl) (fun _ _ _ h => h) (Or.inl ⟨by kernel_rfl, ?_⟩) hS3 ?_
    rotate_left
    · intro w hSw
      try dsimp only at hSw
      go_simp
      try (with_reducible rfl)
    try simp only [Act.put, List.setIfInBounds_toArray, List.set_cons_zero, List.set_cons_succ]
    refine wpAnyH_take (i := 19) (v := ?_) rfl (by kernel_rfl) (by kernel_rfl) (by kernel_rfl) (fun _ _ _ h => h) (Or.inl ⟨by kernel_rfl, ?_⟩) hS3 ?_
    rotate_left
    · intro w hSw
      try dsimp only at hSw
      go_simp
      try (with_reducible rfl)
    try simp only [Act.put, List.setIfInBounds_toArray, List.set_cons_zero, List.set_cons_succ]
    refine wpAnyH_ready (rs := [20]) (by kernel_rfl) (by simp) ?_
    refine AllReadyH.cons rfl (fun K hK => ?_) AllReadyH.nil
    go_simp
    refine hK.out _ _ (HSV.out _ (fun j => cellE ((Below.heap_setCell w7 ⟨r, 4, none⟩ _ _ HNB2.out).trans hb7)) (fun j hj => (World.cell?_setCell_other _ _ _ _ (by simp <;> omega)).trans (cellE hr7))) (fun hS4 => ?_)
    clear hK K
    try simp only [Act.put, List.setIfInBounds_toArray, List.set_cons_zero, List.set_cons_succ]
    refine wpAnyH_done (by kernel_rfl) ?_ _
    try simp only [Act.put, List.setIfInBounds_toArray, List.set_cons_zero, List.set_cons_succ, List.getElem_toArray, List.getElem_cons_succ, List.getElem_cons_zero]
    clear hS0 hS1 hS2 hS3 hS4 hb7 hr7 hc4 hf4
    go_wp2_with fail
    go_ret
    exact ⟨rfl, _, HT.out, HFR.out.trans HK.out⟩
  · go_simp
    refine hK.out _ _ (HSV.out _ (fun j => cellE (hua.block _ HLB.out)) (fun j _ => cellE (hua.block _ HLR.out))) (fun hS1 => ?_)
    clear hK K
    try simp only [Act.put, List.setIfInBounds_toArray, List.set_cons_zero, List.set_cons_succ]
    refine wpAnyH_ready (rs := [4]) (by kernel_rfl) (by simp) ?_
    refine AllReadyH.cons rfl (fun K hK => ?_) AllReadyH.nil
    go_simp
    refine hK.out _ _ hS1 (fun hS2 => ?_)
    clear hK K
    try simp only [Act.put, List.setIfInBounds_toArray, List.set_cons_zero, List.set_cons_succ]
    refine wpAnyH_ready (rs := [17]) (by kernel_rfl) (by simp) ?_
    refine AllReadyH.cons rfl (fun K hK => ?_) AllReadyH.nil
    refine step_append_lies _ rfl (.tmp 47) (.tmp 59) 27 rfl B 71 i0 (.agg #[.int .i64 0, .int .i64 0, .int .i64 0, .int .i64 0, .int .i64 0, .int .i64 0, .int .i64 0]) 7 56 Try.underlying27 HI.out HZ0.out HZ1.out HZ2.out rfl (by decide) _ n (dcells D.L) rfl (own_same HOW.out fun k e => ((Up.refl W6).alloc _).drew.block k (HOW.out.lt k e).2) ⟨W6.heap.size, 0, none⟩ 1 1 [.int .i64 t, .int .i64 k, .int .i64 cl, .int .i64 V, .int .i64 (D.now + 1), .int .i64 (-1), .int .i64 D.value] rfl rfl (news1 W6 _ _) (by simp [Value.oneCell']) (by decide) (by unfold maxLen; omega) (by omega) (by have := HSZ.out; simp; omega) _ rfl ?_
    intro g1 cap w7 hown7 hg7 hat7 hlt7
    obtain ⟨⟨hc4, hf4⟩, HT0, HK0⟩ := HX.out _ _ _ _ ((Up.refl W6).alloc _).drew hown7 hg7 (hat7.imp id (fun e => by rw [e]; simp))
    have hk7 : ∀ k, k < W6.heap.size → Lv.ownBlock ≠ some k → w7.heap[k]? = W6.heap[k]? := fun k h1 h2 => (hg7.block k (Nat.lt_of_lt_of_le h1 ((Up.refl W6).alloc _).drew.size) (fun e => h2 e.symm)).trans (((Up.refl W6).alloc _).drew.block k h1)
    have HT := Lib.hid HT0
    have HK := Lib.hid HK0
    have hb7 := hk7 _ HLB.out HNB.out.1
    have hr7 := hk7 _ HLR.out HNB.out.2
    clear HT0 HK0 hown7 hg7 hat7 hlt7 hk7
    refine hK.out _ _ (HSV.out _ (fun j => cellE hb7) (fun j _ => cellE hr7)) (fun hS3 => ?_)
    clear hK K
    try simp only [Act.put, List.setIfInBounds_toArray, List.set_cons_zero, List.set_cons_succ]
    refine wpAnyH_take (i := 18) (v := ?_) rfl (by kernel_rfl) (by kernel_rfl) (by kernel_rfl) (fun _ _ _ h => h) (Or.inl ⟨by kernel_rfl, ?_⟩) hS3 ?_
    rotate_left
    · intro w hSw
      try dsimp only at hSw
      go_simp
      try (with_reducible rfl)
    try simp only [Act.put, List.setIfInBounds_toArray, List.set_cons_zero, List.set_cons_succ]
    refine wpAnyH_take (i := 19) (v := ?_) rfl (by kernel_rfl) (by kernel_rfl) (by kernel_rfl) (fun _ _ _ h => h) (Or.inl ⟨by kernel_rfl, ?_⟩) hS3 ?_
    rotate_left
    · intro w hSw
      try dsimp only at hSw
      go_simp
      try (with_reducible rfl)
    try simp only [Act.put, List.setIfInBounds_toArray, List.set_cons_zero, List.set_cons_succ]
    refine wpAnyH_ready (rs := [20]) (by kernel_rfl) (by simp) ?_
    refine AllReadyH.cons rfl (fun K hK => ?_) AllReadyH.nil
    go_simp
    refine hK.out _ _ (HSV.out _ (fun j => cellE ((Below.heap_setCell w7 ⟨r, 4, none⟩ _ _ HNB2.out).trans hb7)) (fun j hj => (World.cell?_setCell_other _ _ _ _ (by simp <;> omega)).trans (cellE hr7))) (fun hS4 => ?_)
    clear hK K
    try simp only [Act.put, List.setIfInBounds_toArray, List.set_cons_zero, List.set_cons_succ]
    refine wpAnyH_done (by kernel_rfl) ?_ _
    try simp only [Act.put, List.setIfInBounds_toArray, List.set_cons_zero, List.set_cons_succ, List.getElem_toArray, List.getElem_cons_succ, List.getElem_cons_zero]
    clear hS0 hS1 hS2 hS3 hS4 hb7 hr7 hc4 hf4
    go_wp2_with fail
    go_ret
    exact ⟨rfl, _, HT.out, HFR.out.trans HK.out⟩

end Go.Proofs.Ytpapcheliohacaa
