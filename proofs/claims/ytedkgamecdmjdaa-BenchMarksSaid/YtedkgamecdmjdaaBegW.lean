/-
  Package cell: Begin.
-/
import Derived.Test.YtedkgamecdmjdaaBeg
set_option linter.unusedVariables false
set_option linter.unusedSimpArgs false
namespace Go.Proofs.Ytedkgamecdmjdaa
open Go.RowKit

theorem MayIs.weak {w : World} {B B' : Nat} {m : Value} {l : List Int} (h : MayIs w B m l) (hb : B' ≤ B) : MayIs w B' m l := by
  rcases h with h | ⟨g, h1, h2, h3, h4⟩
  · refine .inl ⟨h.1, h.2.imp id fun ⟨g, cap, cur, e1, e2, e3⟩ => ⟨g, cap, cur, e1, by omega, e3⟩⟩
  · exact .inr ⟨g, h1, by omega, h3, h4⟩
/-- A struct of an access is laid at its thread's place. -/
theorem CellIs.lay {w W : World} {h B : Nat} {c : CS} {ms ms0 : Nat → Value} (H : CellIs W h B c ms) (f : CFrame w W h ms0 ms) (t : Nat) (ht : t < 8) (a : Acc8) (m : Value) (hm : MayIs W B m a.may) (hnew : ∀ k, m.ownBlock = some k → w.heap.size ≤ k ∧ k < W.heap.size ∧ ∀ i, i < 8 → (ms i).ownBlock ≠ some k) (hlt : h < w.heap.size) :
    CellIs (st5 W h (3 + t * 5) (.bool a.on) (.bool a.wr) (.int .i64 a.val) (.bool a.ov) m) h B (c.put t a) (setM ms t m) ∧ CFrame w (st5 W h (3 + t * 5) (.bool a.on) (.bool a.wr) (.int .i64 a.val) (.bool a.ov) m) h ms0 (setM ms t m) := by
  refine ⟨H.store t ht a m hm (fun e => by have := (hnew h e).1; omega) (fun j hj hne k hk => (hnew k hk).2.2 j hj), ?_⟩
  have hb := st5_below W h (3 + t * 5) 0 (.bool a.on) (.bool a.wr) (.int .i64 a.val) (.bool a.ov) m (Nat.zero_le _)
  refine ⟨hb.os.trans f.os, hb.tape.trans f.tape, hb.output.trans f.output, Nat.le_trans f.size hb.size, fun k hk hne hall => (st5_other _ _ _ _ _ _ _ _ _ hne).trans (f.block k hk hne hall), fun i hi k hk => ?_⟩
  unfold setM at hk
  split at hk
  · exact .inr (hnew k hk).1
  · exact f.new i hi k hk

set_option maxRecDepth 10000 in
set_option maxHeartbeats 4000000 in
theorem begin_any (h B N : Nat) (c : CS) (ms : Nat → Value) (t k cl v : Int) (w : World) (H : CellIs w h B c ms) (hg : CGood c N) (hN : N ≤ 900) :
    Calls Try.prog 45 #[.pointer (some ⟨h, 0, none⟩), .int .i64 t, .agg #[.int .i64 k, .int .i64 cl, .int .i64 v]] w fun e w' => e = .returned (.int .i64 (c.begin t k v).1) ∧ ∃ ms', CellIs w' h B (c.begin t k v).2 ms' ∧ CFrame w w' h ms ms' := by
  have HH := Lib.hid H
  have hUb : Up w (w.alloc (.cells #[.int .i64 k, .int .i64 cl, .int .i64 v] 55)) := (Up.refl w).alloc _
  have hbx := heap_alloc_new w (.cells #[.int .i64 k, .int .i64 cl, .int .i64 v] 55)
  have HF := Lib.hid (show CellIs (w.alloc (.cells #[.int .i64 k, .int .i64 cl, .int .i64 v] 55)) h B c ms ∧ CFrame w (w.alloc (.cells #[.int .i64 k, .int .i64 cl, .int .i64 v] 55)) h ms ms from ⟨H.up hUb, CFrame.ofUp hUb⟩)
  obtain ⟨W, hW⟩ : ∃ x, w.alloc (.cells #[.int .i64 k, .int .i64 cl, .int .i64 v] 55) = x := ⟨_, rfl⟩
  rw [hW] at hUb hbx HF
  have HW := Lib.hid hW
  have HU := Lib.hid hUb
  have b0 := cell_of_row _ _ 0 _ _ _ hbx
  have b2 := cell_of_row _ _ 2 _ _ _ hbx
  simp only [List.getElem?_toArray, List.getElem?_cons_zero, List.getElem?_cons_succ] at b0 b2
  have HBX := Lib.hid hbx
  clear hW hUb hbx
  by_cases h1 : t < 0
  · have e0 : c.begin t k v = (1, c) := by unfold CS.begin; rw [if_pos (.inl h1)]
    rw [e0]
    clear e0 H
    go_enter Try.func45, Try.ntmps45
    go_wp2_with fail
    rw [HW.out]
    go_wp2_with fail
    go_ret
    exact ⟨rfl, ms, HF.out⟩
  by_cases h2 : 8 ≤ t
  · have e0 : c.begin t k v = (1, c) := by unfold CS.begin; rw [if_pos (.inr (.inl h2))]
    rw [e0]
    clear e0 H
    go_enter Try.func45, Try.ntmps45
    go_wp2_with fail
    rw [HW.out]
    go_wp2_with fail
    go_ret
    exact ⟨rfl, ms, HF.out⟩
  by_cases h3 : k ≠ 1 ∧ k ≠ 2
  · have e0 : c.begin t k v = (1, c) := by unfold CS.begin; rw [if_pos (.inr (.inr h3))]
    rw [e0]
    obtain ⟨q1, q2⟩ := h3
    have p1 : (k != 1) = true := by simp [bne, q1]
    have p2 : (k != 2) = true := by simp [bne, q2]
    clear e0 H
    go_enter Try.func45, Try.ntmps45
    go_wp2_with fail
    rw [HW.out]
    go_wp2_with fail
    go_ret
    exact ⟨rfl, ms, HF.out⟩
  obtain ⟨tn, rfl⟩ : ∃ tn : Nat, t = tn := ⟨t.toNat, by omega⟩
  have htn : tn < 8 := by omega
  have ht0 : (0 : Int) ≤ tn := by omega
  have ht8 : (tn : Int) < 8 := by omega
  obtain ⟨x0, x1, x2, x3, x4⟩ := HF.out.1.acc tn htn
  have hk12 : k = 1 ∨ k = 2 := by omega
  cases hon : (c.bys tn).on
  rotate_left
  · have e0 : c.begin tn k v = (12, c) := by unfold CS.begin; rw [if_neg (by omega), Int.toNat_natCast, if_pos hon]
    rw [e0]
    rw [hon, ← HW.out] at x0
    clear e0 H hon x1 x2 x3 x4
    rcases hk12 with rfl | rfl
    all_goals
      go_enter Try.func45, Try.ntmps45
      go_wp2_with fail
      rw [HW.out]
      go_wp2_with fail
      go_ret
      exact ⟨rfl, ms, HF.out⟩
  rw [hon] at x0
  have fz := HF.out.1.fz
  obtain ⟨Am, cm, hmv, -⟩ := (HF.out.1.own tn htn).form
  rw [hmv] at x4
  rw [← HW.out] at x0
  rcases hk12 with rfl | rfl
  · have e0 : c.begin tn 1 v = (0, c.put tn (readN c 8)) := by unfold CS.begin; rw [if_neg (by omega), Int.toNat_natCast, if_neg (by simp [hon]), if_pos rfl]
    rw [e0]
    clear e0 hon
    have HRD := Lib.hid (cread_any h B c ms W.drew (HF.out.1.up (Up.refl W).drew))
    go_enter Try.func45, Try.ntmps45
    go_wp2_with fail
    rw [HW.out]
    go_wp2_with fail
    clear x0 x1 x2 x3 x4 b0 b2
    refine wp_region_held_drew (S := fun _ => True) (by kernel_rfl) trivial (fun hH0 => ?_)
    refine wpAnyH_take (i := 0) (v := ?_) rfl (by kernel_rfl) (by kernel_rfl) (by kernel_rfl) (fun _ _ _ h => h) (Or.inl ⟨by kernel_rfl, ?_⟩) hH0 ?_
    rotate_left
    · intro w hSw
      try dsimp only at hSw
      go_simp
      try (with_reducible rfl)
    try simp only [Act.put, List.setIfInBounds_toArray, List.set_cons_zero, List.set_cons_succ]
    refine wpAnyH_take (i := 1) (v := ?_) rfl (by kernel_rfl) (by kernel_rfl) (by kernel_rfl) (fun _ _ _ h => h) (Or.inl ⟨by kernel_rfl, ?_⟩) hH0 ?_
    rotate_left
    · intro w hSw
      try dsimp only at hSw
      go_simp
      try (with_reducible rfl)
    try simp only [Act.put, List.setIfInBounds_toArray, List.set_cons_zero, List.set_cons_succ]
    refine wpAnyH_take (i := 2) (v := ?_) rfl (by kernel_rfl) (by kernel_rfl) (by kernel_rfl) (fun _ _ _ h => h) (Or.inl ⟨by kernel_rfl, ?_⟩) hH0 ?_
    rotate_left
    · intro w hSw
      try dsimp only at hSw
      go_simp
      try (with_reducible rfl)
    try simp only [Act.put, List.setIfInBounds_toArray, List.set_cons_zero, List.set_cons_succ]
    refine wpAnyH_take (i := 4) (v := ?_) rfl (by kernel_rfl) (by kernel_rfl) (by kernel_rfl) (fun _ _ _ h => h) (Or.inl ⟨by kernel_rfl, ?_⟩) hH0 ?_
    rotate_left
    · intro w hSw
      try dsimp only at hSw
      go_simp
      try (with_reducible rfl)
    try simp only [Act.put, List.setIfInBounds_toArray, List.set_cons_zero, List.set_cons_succ]
    refine wpAnyH_take (i := 5) (v := ?_) rfl (by kernel_rfl) (by kernel_rfl) (by kernel_rfl) (fun _ _ _ h => h) (Or.inl ⟨by kernel_rfl, ?_⟩) hH0 ?_
    rotate_left
    · intro w hSw
      try dsimp only at hSw
      go_simp
      try (with_reducible rfl)
    try simp only [Act.put, List.setIfInBounds_toArray, List.set_cons_zero, List.set_cons_succ]
    refine wpAnyH_ready (rs := [3]) (by kernel_rfl) (by simp) ?_
    refine AllReadyH.cons rfl (fun K hK => ?_) AllReadyH.nil
    go_simp
    refine HRD.out.mono ?_
    rintro e w1 ⟨m, rfl, hu, hm⟩
    have hU1 := ((Up.refl W).drew).trans hu
    have HC1 := Lib.hid (HF.out.1.up hU1)
    have HF1 := Lib.hid (HF.out.2.trans (CFrame.ofUp (ms := ms) hU1))
    have hlt : h < w.heap.size := HH.out.lt
    have HUs := Lib.hid hu
    obtain ⟨x0, x1, x2, x3, x4⟩ := HC1.out.acc tn htn
    have fz1 := HC1.out.fz
    obtain ⟨Am1, cm1, hmv1, -⟩ := (HC1.out.own tn htn).form
    rw [hmv1] at x4
    have HM := Lib.hid hm
    obtain ⟨Am2, cm2, rfl, -⟩ := hm.form
    clear hu hm hU1 hmv hmv1
    refine hK.out _ _ trivial (fun hH1 => ?_)
    clear hK K
    try simp only [Act.put, List.setIfInBounds_toArray, List.set_cons_zero, List.set_cons_succ]
    refine wpAnyH_take (i := 6) (v := ?_) rfl (by kernel_rfl) (by kernel_rfl) (by kernel_rfl) (fun _ _ _ h => h) (Or.inl ⟨by kernel_rfl, ?_⟩) hH1 ?_
    rotate_left
    · intro w hSw
      try dsimp only at hSw
      go_simp
      try (with_reducible rfl)
    try simp only [Act.put, List.setIfInBounds_toArray, List.set_cons_zero, List.set_cons_succ]
    refine wpAnyH_ready (rs := [7]) (by kernel_rfl) (by simp) ?_
    refine AllReadyH.cons rfl (fun K hK => ?_) AllReadyH.nil
    go_simp
    have HL := Lib.hid (HC1.out.lay HF1.out tn htn (readN c 8) (.slice Am2 (readN c 8).may.length cm2) (HM.out.weak (Nat.le_trans HH.out.sz (Nat.le_trans HU.out.size (Nat.le_refl _)))) (fun k hk => by
      have := HM.out.ge k hk
      have hs : w.heap.size ≤ W.drew.heap.size := HU.out.size
      exact ⟨by omega, this.2, fun i hi e => by have := ((HH.out.own i hi).ge k e).2; omega⟩) hlt)
    unfold st5 at HL
    refine hK.out _ _ trivial (fun hH2 => ?_)
    clear hK K
    try simp only [Act.put, List.setIfInBounds_toArray, List.set_cons_zero, List.set_cons_succ]
    refine wpAnyH_done (by kernel_rfl) ?_ _
    try simp only [Act.put, List.setIfInBounds_toArray, List.set_cons_zero, List.set_cons_succ, List.getElem_toArray, List.getElem_cons_succ, List.getElem_cons_zero]
    clear x0 x1 x2 x3 x4 fz fz1
    go_wp2_with fail
    go_ret
    exact ⟨rfl, _, HL.out⟩
  · have hcl : clampT v c.top = clampT v c.top := rfl
    generalize hV : clampT v c.top = V
    have e0 : c.begin tn 2 v = (0, (wrN c V 8).put tn ⟨true, true, V, false, []⟩) := by unfold CS.begin; rw [if_neg (by omega), Int.toNat_natCast, if_neg (by simp [hon]), if_neg (by decide), hV]
    rw [e0]
    clear e0 hon
    have k1 := HF.out.1.k1
    have hS0 : W.cell? ⟨w.heap.size, 2, none⟩ = some (.int .i64 v) ∧ W.cell? ⟨h, 1, none⟩ = some (.int .i64 c.top) := ⟨b2, k1⟩
    have HS0 := Lib.hid hS0
    have HCL := Lib.hid (nclamp_any v c.top)
    clear hS0
    go_enter Try.func45, Try.ntmps45
    go_wp2_with fail
    rw [HW.out]
    clear x0 x1 x2 x3 x4 fz hmv b0 b2 k1 hcl
    refine wp_region_held_drew (S := fun w' => w'.cell? ⟨w.heap.size, 2, none⟩ = some (.int .i64 v) ∧ w'.cell? ⟨h, 1, none⟩ = some (.int .i64 c.top)) (by kernel_rfl) HS0.out (fun hH0 => ?_)
    refine wpAnyH_take (i := 0) (v := ?_) rfl (by kernel_rfl) (by kernel_rfl) (by kernel_rfl) (fun _ _ _ h => h) (Or.inl ⟨by kernel_rfl, ?_⟩) hH0 ?_
    rotate_left
    · intro w hSw
      try dsimp only at hSw
      go_simp
      try (with_reducible rfl)
    try simp only [Act.put, List.setIfInBounds_toArray, List.set_cons_zero, List.set_cons_succ]
    refine wpAnyH_take (i := 1) (v := ?_) rfl (by kernel_rfl) (by kernel_rfl) (by kernel_rfl) (fun _ _ _ h => h) (Or.inl ⟨by kernel_rfl, ?_⟩) hH0 ?_
    rotate_left
    · intro w hSw
      try dsimp only at hSw
      go_simp
      try (with_reducible rfl)
    try simp only [Act.put, List.setIfInBounds_toArray, List.set_cons_zero, List.set_cons_succ]
    refine wpAnyH_take (i := 2) (v := ?_) rfl (by kernel_rfl) (by kernel_rfl) (by kernel_rfl) (fun _ _ _ h => h) (Or.inl ⟨by kernel_rfl, ?_⟩) hH0 ?_
    rotate_left
    · intro w hSw
      try dsimp only at hSw
      go_simp
      try (with_reducible rfl)
    try simp only [Act.put, List.setIfInBounds_toArray, List.set_cons_zero, List.set_cons_succ]
    refine wpAnyH_take (i := 3) (v := ?_) rfl (by kernel_rfl) (by kernel_rfl) (by kernel_rfl) (fun _ _ _ h => h) (Or.inl ⟨by kernel_rfl, ?_⟩) hH0 ?_
    rotate_left
    · intro w hSw
      try dsimp only at hSw
      go_simp
      try (with_reducible rfl)
    try simp only [Act.put, List.setIfInBounds_toArray, List.set_cons_zero, List.set_cons_succ]
    refine wpAnyH_take (i := 4) (v := ?_) rfl (by kernel_rfl) (by kernel_rfl) (by kernel_rfl) (fun _ _ _ h => h) (Or.inl ⟨by kernel_rfl, ?_⟩) hH0 ?_
    rotate_left
    · intro w hSw
      try dsimp only at hSw
      go_simp
      try (with_reducible rfl)
    try simp only [Act.put, List.setIfInBounds_toArray, List.set_cons_zero, List.set_cons_succ]
    refine wpAnyH_take (i := 5) (v := ?_) rfl (by kernel_rfl) (by kernel_rfl) (by kernel_rfl) (fun _ _ _ h => h) (Or.inl ⟨by kernel_rfl, ?_⟩) hH0 ?_
    rotate_left
    · intro w hSw
      try dsimp only at hSw
      go_simp
      try (with_reducible rfl)
    try simp only [Act.put, List.setIfInBounds_toArray, List.set_cons_zero, List.set_cons_succ]
    refine wpAnyH_ready (rs := [6]) (by kernel_rfl) (by simp) ?_
    refine AllReadyH.cons rfl (fun K hK => ?_) AllReadyH.nil
    go_simp
    refine (HCL.out _).mono ?_
    rintro e w1 ⟨rfl, rfl⟩
    rw [hV]
    refine hK.out _ _ hH0 (fun hH1 => ?_)
    clear hK K
    try simp only [Act.put, List.setIfInBounds_toArray, List.set_cons_zero, List.set_cons_succ]
    refine wpAnyH_take (i := 7) (v := ?_) rfl (by kernel_rfl) (by kernel_rfl) (by kernel_rfl) (fun _ _ _ h => h) (Or.inl ⟨by kernel_rfl, ?_⟩) hH1 ?_
    rotate_left
    · intro w hSw
      try dsimp only at hSw
      go_simp
      try (with_reducible rfl)
    try simp only [Act.put, List.setIfInBounds_toArray, List.set_cons_zero, List.set_cons_succ]
    refine wpAnyH_done (by kernel_rfl) ?_ _
    try simp only [Act.put, List.setIfInBounds_toArray, List.set_cons_zero, List.set_cons_succ, List.getElem_toArray, List.getElem_cons_succ, List.getElem_cons_zero]
    go_wp2_with fail
    have HVV := Lib.hid hV
    have HS := Lib.hid (show CellIs W.drew h B c ms ∧ CFrame w W.drew h ms ms from ⟨HF.out.1.up (Up.refl W).drew, HF.out.2.trans (CFrame.ofUp (Up.refl W).drew)⟩)
    clear hV
    go_loopw [52] (fun t wr => ∃ (k : Nat) (ms' : Nat → Value), k ≤ 8 ∧ t = .int .i64 k ∧ Hid (CellIs wr h B (wrN c V k) ms' ∧ CFrame w wr h ms ms')) (fun t _ => 8 - (intOf t).toNat)
    case atStart => exact ⟨0, ms, by omega, rfl, HS⟩
    case round =>
      obtain ⟨k, ms', hk8, rfl, HSr⟩ := hrel
      have HLT := Lib.hid HH.out.lt
      by_cases hlt : k < 8
      · have hbk : (wrN c V k).bys k = c.bys k := by rw [wrN_bys, if_neg (by omega)]
        obtain ⟨y0, y1, y2, y3, y4⟩ := HSr.out.1.acc k hlt
        have hki : (k : Int) < 8 := by omega
        have hk0 : (0 : Int) ≤ k := by omega
        have hs : wrN c V (k + 1) = if ((wrN c V k).bys k).on = true ∧ ((wrN c V k).bys k).wr = false then (wrN c V k).put k (ovl c.kind V ((wrN c V k).bys k)) else wrN c V k := rfl
        have HOV := Lib.hid (overlap_may h h (3 + k * 5) B (wrN c V k).kind V (ms' k) ((wrN c V k).bys k).ov ((wrN c V k).bys k).may wr HSr.out.1.k0 y3 y4 HSr.out.1.fz (HSr.out.1.own k hlt) HSr.out.1.sz (by rw [hbk]; have := hg.few k hlt; omega) (HSr.out.1.apart k hlt))
        have HST := Lib.hid (fun w2 m' hp hm => HSr.out.1.over (w' := w2) k hlt V m' hp hm)
        rw [hbk] at y0 y1 hs
        obtain ⟨on, hon⟩ : ∃ x, (c.bys k).on = x := ⟨_, rfl⟩
        obtain ⟨wrt, hwr⟩ : ∃ x, (c.bys k).wr = x := ⟨_, rfl⟩
        rw [hon] at y0 hs
        rw [hwr] at y1 hs
        have HS2 := Lib.hid hs
        clear hs hon hwr y2 y3 y4
        cases on
        · have HS3 := Lib.hid (HS2.out.trans (if_neg (by simp)))
          clear y1
          go_wp2_with fail
          go_roundw
          case rel => exact ⟨k + 1, ms', by omega, by go_num, Lib.hid (by rw [HS3.out]; exact HSr.out)⟩
          case measure => simp [intOf]; omega
        cases wrt
        rotate_left
        · have HS3 := Lib.hid (HS2.out.trans (if_neg (by simp)))
          go_wp2_with fail
          go_roundw
          case rel => exact ⟨k + 1, ms', by omega, by go_num, Lib.hid (by rw [HS3.out]; exact HSr.out)⟩
          case measure => simp [intOf]; omega
        have HS3 := Lib.hid (HS2.out.trans (if_pos ⟨rfl, rfl⟩))
        clear HS2
        go_wp2_with fail
        refine HOV.out.mono ?_
        rintro e w2 ⟨rfl, m', hp, hm, -⟩
        obtain ⟨q1, q2⟩ := HST.out w2 m' hp hm
        have HS4 := Lib.hid (show CellIs w2 h B (wrN c V (k + 1)) (setM ms' k m') ∧ CFrame w w2 h ms (setM ms' k m') from ⟨by rw [HS3.out]; rw [hbk, (wrN_kind c V k).1] at q1; exact q1, HSr.out.2.trans q2⟩)
        clear hp hm q1 q2 y0 y1 HOV HST
        go_wp2_with fail
        go_roundw
        case rel => exact ⟨k + 1, _, by omega, by go_num, HS4⟩
        case measure => simp [intOf]; omega
      · obtain rfl : k = 8 := by omega
        clear hlt
        obtain ⟨x0, x1, x2, x3, x4⟩ := HSr.out.1.acc tn htn
        have fz := HSr.out.1.fz
        obtain ⟨Am, cm, hmv, -⟩ := (HSr.out.1.own tn htn).form
        rw [hmv] at x4
        have HL := Lib.hid (HSr.out.1.lay HSr.out.2 tn htn ⟨true, true, V, false, []⟩ (.slice none 0 0) (.inl ⟨rfl, .inl ⟨rfl, rfl⟩⟩) (by simp [Value.ownBlock]) HLT.out)
        unfold st5 at HL
        clear hmv
        go_wp2_with fail
        go_ret
        exact ⟨rfl, _, HL.out⟩

end Go.Proofs.Ytedkgamecdmjdaa
