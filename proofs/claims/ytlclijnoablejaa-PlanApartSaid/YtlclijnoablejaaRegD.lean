/-
  Registers of the kinds 1, 6, 7: Fine.
-/
import Derived.Test.YtlclijnoablejaaRegC
import Derived.Deep.QuietTactic
import Derived.BigQuiet
set_option linter.unusedVariables false
set_option linter.unusedSimpArgs false
namespace Go.Proofs.Ytlclijnoablejaa
open Go.RowKit

/-- A register as a plan wants it. -/
structure Wanted (r : Rg) : Prop where
  laid : Laid r
  top : 1 ≤ r.top ∧ r.top ≤ 255
  wr : -1 ≤ r.writer ∧ r.writer < r.n
  rd : r.reader = -1
  tab : r.kind = 6 → r.writer ≠ -1
def fineB (r : Rg) : Bool := withinB r.base (cellsN r) && withinB r.loc (localsN r)
theorem great_ge (k : Int) : 255 ≤ greatN k := by unfold greatN; split; decide; split <;> decide

set_option maxRecDepth 10000 in
set_option maxHeartbeats 2000000 in
theorem rfine_any (r : Rg) (w : World) (h : Wanted r) (hb0 : 0 ≤ r.base ∧ r.base ≤ 32768) (hl0 : 0 ≤ r.loc ∧ r.loc ≤ 32768) : Calls Try.prog 8 #[.agg (rcells r)] w fun e w' => e = .returned (.bool (fineB r)) ∧ Up w w' := by
  have hb : RegBox (w.alloc (.cells (rcells r) 29)) w.heap.size r := heap_alloc_new w _
  have HU := Lib.hid (show Up w (w.alloc (.cells (rcells r) 29)) from (Up.refl _).alloc _)
  have HG := Lib.hid (fun W => great_any r.kind W h.laid.2)
  have hgr : r.top ≤ greatN r.kind := by have := great_ge r.kind; have := h.top; omega
  have hn1 := h.laid.1.1
  have hn8 := h.laid.1.2
  have hn1i : (1 : Int) ≤ r.n := by omega
  have hn8i : (r.n : Int) ≤ 8 := by omega
  have ht1 := h.top.1
  have hw1 := h.wr.1
  have hw2 := h.wr.2
  have htb := h.tab
  have HCE := Lib.hid (fun W => rcells_any r W h.laid)
  have HLO := Lib.hid (fun W => rlocals_any r W h.laid)
  have HW1 := Lib.hid (fun W => within_any r.base (cellsN r) W hb0 ⟨by omega, by have := cellsN_le r h.laid; omega⟩)
  have HW2 := Lib.hid (fun W => within_any r.loc (localsN r) W hl0 ⟨by omega, by have := localsN_le r h.laid; omega⟩)
  have HKD := Lib.hid h.laid.2
  have hrd := h.rd
  unfold fineB
  generalize hbe : withinB r.base (cellsN r) = b1 at *
  generalize hle : withinB r.loc (localsN r) = b2 at *
  clear h hb0 hl0 hbe hle
  obtain ⟨W, hW⟩ : ∃ x, w.alloc (.cells (rcells r) 29) = x := ⟨_, rfl⟩
  rw [hW] at hb HU
  have HB := Lib.hid hb
  obtain ⟨c0, c1, c2, c3, c4, c5, c6⟩ := hb.cells
  clear hb
  obtain ⟨rk, rb, rl, rn, rw', rr, rt⟩ := r
  dsimp only at *
  subst hrd
  have CG : Hid (∀ n, Calls Try.prog 26 #[.int .i64 rk] (W.drewN n) fun e w' => e = .returned (.int .i64 (greatN rk)) ∧ w' = W.drewN n) := Lib.hid (fun n => HG.out _)
  generalize greatN rk = gr at *
  unfold rcells at hW HCE HLO ⊢
  dsimp only at hW HCE HLO ⊢
  go_enter Try.func8, Try.ntmps8
  go_wp2_with fail
  go_quiet ((go_at_call 26; exact Calls.quiet_of_same (CG.out _)))
  rename_i nq
  have HB1 := Lib.hid (HB.out.up ((Up.refl W).drewN nq))
  replace HU := Lib.hid (HU.out.trans ((Up.refl W).drewN nq))
  clear HB CG HG hW c0 c1 c2 c3 c4 c5 c6
  obtain ⟨c0, c1, c2, c3, c4, c5, c6⟩ := HB1.out.cells
  dsimp only at c0 c1 c2 c3 c4 c5 c6
  generalize W.drewN nq = W1 at *
  generalize w.heap.size = ad at *
  rcases HKD.out with rfl | rfl | rfl
  · clear htb
    go_wp2_with fail
    have HSV := Lib.hid (fun (w' : World) (u : Up W1 w') => (show w'.cell? ⟨ad, 0, none⟩ = some (.int .i64 1) ∧ w'.cell? ⟨ad, 1, none⟩ = some (.int .i64 rb) ∧ w'.cell? ⟨ad, 2, none⟩ = some (.int .i64 rl) ∧ w'.cell? ⟨ad, 3, none⟩ = some (.int .i64 rn) ∧ w'.cell? ⟨ad, 4, none⟩ = some (.int .i64 rw') ∧ w'.cell? ⟨ad, 5, none⟩ = some (.int .i64 (-1)) ∧ w'.cell? ⟨ad, 6, none⟩ = some (.int .i64 rt) from (HB1.out.up u).cells))
    have hS0 := HSV.out W1.drew (Up.refl W1).drew
    have HU1 := HU
    clear HU HB1
    clear c0 c1 c2 c3 c4 c5 c6
    refine wp_region_held_drew (S := fun w' => w'.cell? ⟨ad, 0, none⟩ = some (.int .i64 1) ∧ w'.cell? ⟨ad, 1, none⟩ = some (.int .i64 rb) ∧ w'.cell? ⟨ad, 2, none⟩ = some (.int .i64 rl) ∧ w'.cell? ⟨ad, 3, none⟩ = some (.int .i64 rn) ∧ w'.cell? ⟨ad, 4, none⟩ = some (.int .i64 rw') ∧ w'.cell? ⟨ad, 5, none⟩ = some (.int .i64 (-1)) ∧ w'.cell? ⟨ad, 6, none⟩ = some (.int .i64 rt)) (by kernel_rfl) hS0 (fun hH0 => ?_)
    clear hS0
    refine wpAnyH_take (i := 0) (v := ?_) rfl (by kernel_rfl) (by kernel_rfl) (by kernel_rfl) (fun _ _ _ h => h) (Or.inl ⟨by kernel_rfl, ?_⟩) hH0 ?_
    rotate_left
    · intro w hSw
      try dsimp only at hSw
      go_simp
      try (with_reducible rfl)
    try simp only [Act.put, List.setIfInBounds_toArray, List.set_cons_zero, List.set_cons_succ]
    refine wpAnyH_take (i := 1) (v := ?_) rfl (by kernel_rfl) (by kernel_rfl) (by kernel_rfl) (fun _ _ _ h => h) (Or.inl ⟨by kernel_rfl, ?_⟩) hH0 ?_
    rotate_left
    · intro w hSw
      try dsimp only at hSw
      go_simp
      try (with_reducible rfl)
    try simp only [Act.put, List.setIfInBounds_toArray, List.set_cons_zero, List.set_cons_succ]
    refine wpAnyH_take (i := 2) (v := ?_) rfl (by kernel_rfl) (by kernel_rfl) (by kernel_rfl) (fun _ _ _ h => h) (Or.inl ⟨by kernel_rfl, ?_⟩) hH0 ?_
    rotate_left
    · intro w hSw
      try dsimp only at hSw
      go_simp
      try (with_reducible rfl)
    try simp only [Act.put, List.setIfInBounds_toArray, List.set_cons_zero, List.set_cons_succ]
    refine wpAnyH_ready (rs := [3]) (by kernel_rfl) (by simp) ?_
    refine AllReadyH.cons rfl (fun K hK => ?_) AllReadyH.nil
    go_simp
    refine (HCE.out _).mono ?_
    rintro e w2 ⟨rfl, hu2⟩
    have HU2 := Lib.hid (((Up.refl W1).drew).trans hu2)
    clear hu2
    refine hK.out _ _ (HSV.out _ HU2.out) (fun hH1 => ?_)
    clear hK K
    try simp only [Act.put, List.setIfInBounds_toArray, List.set_cons_zero, List.set_cons_succ]
    refine wpAnyH_ready (rs := [4]) (by kernel_rfl) (by simp) ?_
    refine AllReadyH.cons rfl (fun K hK => ?_) AllReadyH.nil
    go_simp
    refine (HW1.out _).mono ?_
    rintro e w3 ⟨rfl, rfl⟩
    refine hK.out _ _ hH1 (fun hH2 => ?_)
    clear hK K
    try simp only [Act.put, List.setIfInBounds_toArray, List.set_cons_zero, List.set_cons_succ]
    refine wpAnyH_take (i := 5) (v := ?_) rfl (by kernel_rfl) (by kernel_rfl) (by kernel_rfl) (fun _ _ _ h => h) (Or.inl ⟨by kernel_rfl, ?_⟩) hH2 ?_
    rotate_left
    · intro w hSw
      try dsimp only at hSw
      go_simp
      try (with_reducible rfl)
    try simp only [Act.put, List.setIfInBounds_toArray, List.set_cons_zero, List.set_cons_succ]
    cases b1
    · refine wpAnyH_take (i := 6) (v := undef) rfl (by kernel_rfl) (by kernel_rfl) (by kernel_rfl) (fun _ _ _ h => h) (Or.inr ⟨by kernel_rfl, rfl⟩) hH2 ?_
      try simp only [Act.put, List.setIfInBounds_toArray, List.set_cons_zero, List.set_cons_succ]
      refine wpAnyH_take (i := 7) (v := undef) rfl (by kernel_rfl) (by kernel_rfl) (by kernel_rfl) (fun _ _ _ h => h) (Or.inr ⟨by kernel_rfl, rfl⟩) hH2 ?_
      try simp only [Act.put, List.setIfInBounds_toArray, List.set_cons_zero, List.set_cons_succ]
      refine wpAnyH_take (i := 8) (v := undef) rfl (by kernel_rfl) (by kernel_rfl) (by kernel_rfl) (fun _ _ _ h => h) (Or.inr ⟨by kernel_rfl, rfl⟩) hH2 ?_
      try simp only [Act.put, List.setIfInBounds_toArray, List.set_cons_zero, List.set_cons_succ]
      refine wpAnyH_take (i := 9) (v := undef) rfl (by kernel_rfl) (by kernel_rfl) (by kernel_rfl) (fun _ _ _ h => h) (Or.inr ⟨by kernel_rfl, rfl⟩) hH2 ?_
      try simp only [Act.put, List.setIfInBounds_toArray, List.set_cons_zero, List.set_cons_succ]
      refine wpAnyH_take (i := 10) (v := undef) rfl (by kernel_rfl) (by kernel_rfl) (by kernel_rfl) (fun _ _ _ h => h) (Or.inr ⟨by kernel_rfl, rfl⟩) hH2 ?_
      try simp only [Act.put, List.setIfInBounds_toArray, List.set_cons_zero, List.set_cons_succ]
      refine wpAnyH_take (i := 11) (v := ?_) rfl (by kernel_rfl) (by kernel_rfl) (by kernel_rfl) (fun _ _ _ h => h) (Or.inl ⟨by kernel_rfl, ?_⟩) hH2 ?_
      rotate_left
      · intro w hSw
        try dsimp only at hSw
        go_simp
        try (with_reducible rfl)
      try simp only [Act.put, List.setIfInBounds_toArray, List.set_cons_zero, List.set_cons_succ]
      refine wpAnyH_take (i := 12) (v := ?_) rfl (by kernel_rfl) (by kernel_rfl) (by kernel_rfl) (fun _ _ _ h => h) (Or.inl ⟨by kernel_rfl, ?_⟩) hH2 ?_
      rotate_left
      · intro w hSw
        try dsimp only at hSw
        go_simp
        try (with_reducible rfl)
      try simp only [Act.put, List.setIfInBounds_toArray, List.set_cons_zero, List.set_cons_succ]
      refine wpAnyH_done (by kernel_rfl) ?_ _
      try simp only [Act.put, List.setIfInBounds_toArray, List.set_cons_zero, List.set_cons_succ, List.getElem_toArray, List.getElem_cons_succ, List.getElem_cons_zero]
      clear hH0 hH1 hH2
      go_wp2_with fail
      go_ret
      exact ⟨rfl, HU1.out.trans HU2.out⟩
    · skip
      refine wpAnyH_take (i := 6) (v := ?_) rfl (by kernel_rfl) (by kernel_rfl) (by kernel_rfl) (fun _ _ _ h => h) (Or.inl ⟨by kernel_rfl, ?_⟩) hH2 ?_
      rotate_left
      · intro w hSw
        try dsimp only at hSw
        go_simp
        try (with_reducible rfl)
      try simp only [Act.put, List.setIfInBounds_toArray, List.set_cons_zero, List.set_cons_succ]
      refine wpAnyH_take (i := 7) (v := ?_) rfl (by kernel_rfl) (by kernel_rfl) (by kernel_rfl) (fun _ _ _ h => h) (Or.inl ⟨by kernel_rfl, ?_⟩) hH2 ?_
      rotate_left
      · intro w hSw
        try dsimp only at hSw
        go_simp
        try (with_reducible rfl)
      try simp only [Act.put, List.setIfInBounds_toArray, List.set_cons_zero, List.set_cons_succ]
      refine wpAnyH_take (i := 8) (v := ?_) rfl (by kernel_rfl) (by kernel_rfl) (by kernel_rfl) (fun _ _ _ h => h) (Or.inl ⟨by kernel_rfl, ?_⟩) hH2 ?_
      rotate_left
      · intro w hSw
        try dsimp only at hSw
        go_simp
        try (with_reducible rfl)
      try simp only [Act.put, List.setIfInBounds_toArray, List.set_cons_zero, List.set_cons_succ]
      refine wpAnyH_ready (rs := [9]) (by kernel_rfl) (by simp) ?_
      refine AllReadyH.cons rfl (fun K hK => ?_) AllReadyH.nil
      go_simp
      refine (HLO.out _).mono ?_
      rintro e w4 ⟨rfl, hu4⟩
      have HU4 := Lib.hid (HU2.out.trans hu4)
      clear hu4
      refine hK.out _ _ (HSV.out _ HU4.out) (fun hH3 => ?_)
      clear hK K
      try simp only [Act.put, List.setIfInBounds_toArray, List.set_cons_zero, List.set_cons_succ]
      refine wpAnyH_ready (rs := [10]) (by kernel_rfl) (by simp) ?_
      refine AllReadyH.cons rfl (fun K hK => ?_) AllReadyH.nil
      go_simp
      refine (HW2.out _).mono ?_
      rintro e w5 ⟨rfl, rfl⟩
      refine hK.out _ _ hH3 (fun hH4 => ?_)
      clear hK K
      try simp only [Act.put, List.setIfInBounds_toArray, List.set_cons_zero, List.set_cons_succ]
      refine wpAnyH_take (i := 11) (v := ?_) rfl (by kernel_rfl) (by kernel_rfl) (by kernel_rfl) (fun _ _ _ h => h) (Or.inl ⟨by kernel_rfl, ?_⟩) hH4 ?_
      rotate_left
      · intro w hSw
        try dsimp only at hSw
        go_simp
        try (with_reducible rfl)
      try simp only [Act.put, List.setIfInBounds_toArray, List.set_cons_zero, List.set_cons_succ]
      refine wpAnyH_take (i := 12) (v := ?_) rfl (by kernel_rfl) (by kernel_rfl) (by kernel_rfl) (fun _ _ _ h => h) (Or.inl ⟨by kernel_rfl, ?_⟩) hH4 ?_
      rotate_left
      · intro w hSw
        try dsimp only at hSw
        go_simp
        try (with_reducible rfl)
      try simp only [Act.put, List.setIfInBounds_toArray, List.set_cons_zero, List.set_cons_succ]
      refine wpAnyH_done (by kernel_rfl) ?_ _
      try simp only [Act.put, List.setIfInBounds_toArray, List.set_cons_zero, List.set_cons_succ, List.getElem_toArray, List.getElem_cons_succ, List.getElem_cons_zero]
      clear hH0 hH1 hH2 hH3 hH4
      go_wp2_with fail
      go_ret
      exact ⟨rfl, HU1.out.trans HU4.out⟩
  · have hne : (rw' == -1) = false := by rw [beq_eq_false_iff_ne]; exact htb rfl
    have hne2 : ¬ rw' = -1 := htb rfl
    clear htb
    go_wp2_with fail
    have HSV := Lib.hid (fun (w' : World) (u : Up W1 w') => (show w'.cell? ⟨ad, 0, none⟩ = some (.int .i64 6) ∧ w'.cell? ⟨ad, 1, none⟩ = some (.int .i64 rb) ∧ w'.cell? ⟨ad, 2, none⟩ = some (.int .i64 rl) ∧ w'.cell? ⟨ad, 3, none⟩ = some (.int .i64 rn) ∧ w'.cell? ⟨ad, 4, none⟩ = some (.int .i64 rw') ∧ w'.cell? ⟨ad, 5, none⟩ = some (.int .i64 (-1)) ∧ w'.cell? ⟨ad, 6, none⟩ = some (.int .i64 rt) from (HB1.out.up u).cells))
    have hS0 := HSV.out W1.drew (Up.refl W1).drew
    have HU1 := HU
    clear HU HB1
    clear c0 c1 c2 c3 c4 c5 c6
    refine wp_region_held_drew (S := fun w' => w'.cell? ⟨ad, 0, none⟩ = some (.int .i64 6) ∧ w'.cell? ⟨ad, 1, none⟩ = some (.int .i64 rb) ∧ w'.cell? ⟨ad, 2, none⟩ = some (.int .i64 rl) ∧ w'.cell? ⟨ad, 3, none⟩ = some (.int .i64 rn) ∧ w'.cell? ⟨ad, 4, none⟩ = some (.int .i64 rw') ∧ w'.cell? ⟨ad, 5, none⟩ = some (.int .i64 (-1)) ∧ w'.cell? ⟨ad, 6, none⟩ = some (.int .i64 rt)) (by kernel_rfl) hS0 (fun hH0 => ?_)
    clear hS0
    refine wpAnyH_take (i := 0) (v := ?_) rfl (by kernel_rfl) (by kernel_rfl) (by kernel_rfl) (fun _ _ _ h => h) (Or.inl ⟨by kernel_rfl, ?_⟩) hH0 ?_
    rotate_left
    · intro w hSw
      try dsimp only at hSw
      go_simp
      try (with_reducible rfl)
    try simp only [Act.put, List.setIfInBounds_toArray, List.set_cons_zero, List.set_cons_succ]
    refine wpAnyH_take (i := 1) (v := ?_) rfl (by kernel_rfl) (by kernel_rfl) (by kernel_rfl) (fun _ _ _ h => h) (Or.inl ⟨by kernel_rfl, ?_⟩) hH0 ?_
    rotate_left
    · intro w hSw
      try dsimp only at hSw
      go_simp
      try (with_reducible rfl)
    try simp only [Act.put, List.setIfInBounds_toArray, List.set_cons_zero, List.set_cons_succ]
    refine wpAnyH_take (i := 2) (v := ?_) rfl (by kernel_rfl) (by kernel_rfl) (by kernel_rfl) (fun _ _ _ h => h) (Or.inl ⟨by kernel_rfl, ?_⟩) hH0 ?_
    rotate_left
    · intro w hSw
      try dsimp only at hSw
      go_simp
      try (with_reducible rfl)
    try simp only [Act.put, List.setIfInBounds_toArray, List.set_cons_zero, List.set_cons_succ]
    refine wpAnyH_ready (rs := [3]) (by kernel_rfl) (by simp) ?_
    refine AllReadyH.cons rfl (fun K hK => ?_) AllReadyH.nil
    go_simp
    refine (HCE.out _).mono ?_
    rintro e w2 ⟨rfl, hu2⟩
    have HU2 := Lib.hid (((Up.refl W1).drew).trans hu2)
    clear hu2
    refine hK.out _ _ (HSV.out _ HU2.out) (fun hH1 => ?_)
    clear hK K
    try simp only [Act.put, List.setIfInBounds_toArray, List.set_cons_zero, List.set_cons_succ]
    refine wpAnyH_ready (rs := [4]) (by kernel_rfl) (by simp) ?_
    refine AllReadyH.cons rfl (fun K hK => ?_) AllReadyH.nil
    go_simp
    refine (HW1.out _).mono ?_
    rintro e w3 ⟨rfl, rfl⟩
    refine hK.out _ _ hH1 (fun hH2 => ?_)
    clear hK K
    try simp only [Act.put, List.setIfInBounds_toArray, List.set_cons_zero, List.set_cons_succ]
    refine wpAnyH_take (i := 5) (v := ?_) rfl (by kernel_rfl) (by kernel_rfl) (by kernel_rfl) (fun _ _ _ h => h) (Or.inl ⟨by kernel_rfl, ?_⟩) hH2 ?_
    rotate_left
    · intro w hSw
      try dsimp only at hSw
      go_simp
      try (with_reducible rfl)
    try simp only [Act.put, List.setIfInBounds_toArray, List.set_cons_zero, List.set_cons_succ]
    cases b1
    · refine wpAnyH_take (i := 6) (v := undef) rfl (by kernel_rfl) (by kernel_rfl) (by kernel_rfl) (fun _ _ _ h => h) (Or.inr ⟨by kernel_rfl, rfl⟩) hH2 ?_
      try simp only [Act.put, List.setIfInBounds_toArray, List.set_cons_zero, List.set_cons_succ]
      refine wpAnyH_take (i := 7) (v := undef) rfl (by kernel_rfl) (by kernel_rfl) (by kernel_rfl) (fun _ _ _ h => h) (Or.inr ⟨by kernel_rfl, rfl⟩) hH2 ?_
      try simp only [Act.put, List.setIfInBounds_toArray, List.set_cons_zero, List.set_cons_succ]
      refine wpAnyH_take (i := 8) (v := undef) rfl (by kernel_rfl) (by kernel_rfl) (by kernel_rfl) (fun _ _ _ h => h) (Or.inr ⟨by kernel_rfl, rfl⟩) hH2 ?_
      try simp only [Act.put, List.setIfInBounds_toArray, List.set_cons_zero, List.set_cons_succ]
      refine wpAnyH_take (i := 9) (v := undef) rfl (by kernel_rfl) (by kernel_rfl) (by kernel_rfl) (fun _ _ _ h => h) (Or.inr ⟨by kernel_rfl, rfl⟩) hH2 ?_
      try simp only [Act.put, List.setIfInBounds_toArray, List.set_cons_zero, List.set_cons_succ]
      refine wpAnyH_take (i := 10) (v := undef) rfl (by kernel_rfl) (by kernel_rfl) (by kernel_rfl) (fun _ _ _ h => h) (Or.inr ⟨by kernel_rfl, rfl⟩) hH2 ?_
      try simp only [Act.put, List.setIfInBounds_toArray, List.set_cons_zero, List.set_cons_succ]
      refine wpAnyH_take (i := 11) (v := ?_) rfl (by kernel_rfl) (by kernel_rfl) (by kernel_rfl) (fun _ _ _ h => h) (Or.inl ⟨by kernel_rfl, ?_⟩) hH2 ?_
      rotate_left
      · intro w hSw
        try dsimp only at hSw
        go_simp
        try (with_reducible rfl)
      try simp only [Act.put, List.setIfInBounds_toArray, List.set_cons_zero, List.set_cons_succ]
      refine wpAnyH_take (i := 12) (v := ?_) rfl (by kernel_rfl) (by kernel_rfl) (by kernel_rfl) (fun _ _ _ h => h) (Or.inl ⟨by kernel_rfl, ?_⟩) hH2 ?_
      rotate_left
      · intro w hSw
        try dsimp only at hSw
        go_simp
        try (with_reducible rfl)
      try simp only [Act.put, List.setIfInBounds_toArray, List.set_cons_zero, List.set_cons_succ]
      refine wpAnyH_done (by kernel_rfl) ?_ _
      try simp only [Act.put, List.setIfInBounds_toArray, List.set_cons_zero, List.set_cons_succ, List.getElem_toArray, List.getElem_cons_succ, List.getElem_cons_zero]
      clear hH0 hH1 hH2
      go_wp2_with fail
      go_ret
      exact ⟨rfl, HU1.out.trans HU2.out⟩
    · skip
      refine wpAnyH_take (i := 6) (v := ?_) rfl (by kernel_rfl) (by kernel_rfl) (by kernel_rfl) (fun _ _ _ h => h) (Or.inl ⟨by kernel_rfl, ?_⟩) hH2 ?_
      rotate_left
      · intro w hSw
        try dsimp only at hSw
        go_simp
        try (with_reducible rfl)
      try simp only [Act.put, List.setIfInBounds_toArray, List.set_cons_zero, List.set_cons_succ]
      refine wpAnyH_take (i := 7) (v := ?_) rfl (by kernel_rfl) (by kernel_rfl) (by kernel_rfl) (fun _ _ _ h => h) (Or.inl ⟨by kernel_rfl, ?_⟩) hH2 ?_
      rotate_left
      · intro w hSw
        try dsimp only at hSw
        go_simp
        try (with_reducible rfl)
      try simp only [Act.put, List.setIfInBounds_toArray, List.set_cons_zero, List.set_cons_succ]
      refine wpAnyH_take (i := 8) (v := ?_) rfl (by kernel_rfl) (by kernel_rfl) (by kernel_rfl) (fun _ _ _ h => h) (Or.inl ⟨by kernel_rfl, ?_⟩) hH2 ?_
      rotate_left
      · intro w hSw
        try dsimp only at hSw
        go_simp
        try (with_reducible rfl)
      try simp only [Act.put, List.setIfInBounds_toArray, List.set_cons_zero, List.set_cons_succ]
      refine wpAnyH_ready (rs := [9]) (by kernel_rfl) (by simp) ?_
      refine AllReadyH.cons rfl (fun K hK => ?_) AllReadyH.nil
      go_simp
      refine (HLO.out _).mono ?_
      rintro e w4 ⟨rfl, hu4⟩
      have HU4 := Lib.hid (HU2.out.trans hu4)
      clear hu4
      refine hK.out _ _ (HSV.out _ HU4.out) (fun hH3 => ?_)
      clear hK K
      try simp only [Act.put, List.setIfInBounds_toArray, List.set_cons_zero, List.set_cons_succ]
      refine wpAnyH_ready (rs := [10]) (by kernel_rfl) (by simp) ?_
      refine AllReadyH.cons rfl (fun K hK => ?_) AllReadyH.nil
      go_simp
      refine (HW2.out _).mono ?_
      rintro e w5 ⟨rfl, rfl⟩
      refine hK.out _ _ hH3 (fun hH4 => ?_)
      clear hK K
      try simp only [Act.put, List.setIfInBounds_toArray, List.set_cons_zero, List.set_cons_succ]
      refine wpAnyH_take (i := 11) (v := ?_) rfl (by kernel_rfl) (by kernel_rfl) (by kernel_rfl) (fun _ _ _ h => h) (Or.inl ⟨by kernel_rfl, ?_⟩) hH4 ?_
      rotate_left
      · intro w hSw
        try dsimp only at hSw
        go_simp
        try (with_reducible rfl)
      try simp only [Act.put, List.setIfInBounds_toArray, List.set_cons_zero, List.set_cons_succ]
      refine wpAnyH_take (i := 12) (v := ?_) rfl (by kernel_rfl) (by kernel_rfl) (by kernel_rfl) (fun _ _ _ h => h) (Or.inl ⟨by kernel_rfl, ?_⟩) hH4 ?_
      rotate_left
      · intro w hSw
        try dsimp only at hSw
        go_simp
        try (with_reducible rfl)
      try simp only [Act.put, List.setIfInBounds_toArray, List.set_cons_zero, List.set_cons_succ]
      refine wpAnyH_done (by kernel_rfl) ?_ _
      try simp only [Act.put, List.setIfInBounds_toArray, List.set_cons_zero, List.set_cons_succ, List.getElem_toArray, List.getElem_cons_succ, List.getElem_cons_zero]
      clear hH0 hH1 hH2 hH3 hH4
      go_wp2_with fail
      go_ret
      exact ⟨rfl, HU1.out.trans HU4.out⟩
  · clear htb
    go_wp2_with fail
    have HSV := Lib.hid (fun (w' : World) (u : Up W1 w') => (show w'.cell? ⟨ad, 0, none⟩ = some (.int .i64 7) ∧ w'.cell? ⟨ad, 1, none⟩ = some (.int .i64 rb) ∧ w'.cell? ⟨ad, 2, none⟩ = some (.int .i64 rl) ∧ w'.cell? ⟨ad, 3, none⟩ = some (.int .i64 rn) ∧ w'.cell? ⟨ad, 4, none⟩ = some (.int .i64 rw') ∧ w'.cell? ⟨ad, 5, none⟩ = some (.int .i64 (-1)) ∧ w'.cell? ⟨ad, 6, none⟩ = some (.int .i64 rt) from (HB1.out.up u).cells))
    have hS0 := HSV.out W1.drew (Up.refl W1).drew
    have HU1 := HU
    clear HU HB1
    clear c0 c1 c2 c3 c4 c5 c6
    refine wp_region_held_drew (S := fun w' => w'.cell? ⟨ad, 0, none⟩ = some (.int .i64 7) ∧ w'.cell? ⟨ad, 1, none⟩ = some (.int .i64 rb) ∧ w'.cell? ⟨ad, 2, none⟩ = some (.int .i64 rl) ∧ w'.cell? ⟨ad, 3, none⟩ = some (.int .i64 rn) ∧ w'.cell? ⟨ad, 4, none⟩ = some (.int .i64 rw') ∧ w'.cell? ⟨ad, 5, none⟩ = some (.int .i64 (-1)) ∧ w'.cell? ⟨ad, 6, none⟩ = some (.int .i64 rt)) (by kernel_rfl) hS0 (fun hH0 => ?_)
    clear hS0
    refine wpAnyH_take (i := 0) (v := ?_) rfl (by kernel_rfl) (by kernel_rfl) (by kernel_rfl) (fun _ _ _ h => h) (Or.inl ⟨by kernel_rfl, ?_⟩) hH0 ?_
    rotate_left
    · intro w hSw
      try dsimp only at hSw
      go_simp
      try (with_reducible rfl)
    try simp only [Act.put, List.setIfInBounds_toArray, List.set_cons_zero, List.set_cons_succ]
    refine wpAnyH_take (i := 1) (v := ?_) rfl (by kernel_rfl) (by kernel_rfl) (by kernel_rfl) (fun _ _ _ h => h) (Or.inl ⟨by kernel_rfl, ?_⟩) hH0 ?_
    rotate_left
    · intro w hSw
      try dsimp only at hSw
      go_simp
      try (with_reducible rfl)
    try simp only [Act.put, List.setIfInBounds_toArray, List.set_cons_zero, List.set_cons_succ]
    refine wpAnyH_take (i := 2) (v := ?_) rfl (by kernel_rfl) (by kernel_rfl) (by kernel_rfl) (fun _ _ _ h => h) (Or.inl ⟨by kernel_rfl, ?_⟩) hH0 ?_
    rotate_left
    · intro w hSw
      try dsimp only at hSw
      go_simp
      try (with_reducible rfl)
    try simp only [Act.put, List.setIfInBounds_toArray, List.set_cons_zero, List.set_cons_succ]
    refine wpAnyH_ready (rs := [3]) (by kernel_rfl) (by simp) ?_
    refine AllReadyH.cons rfl (fun K hK => ?_) AllReadyH.nil
    go_simp
    refine (HCE.out _).mono ?_
    rintro e w2 ⟨rfl, hu2⟩
    have HU2 := Lib.hid (((Up.refl W1).drew).trans hu2)
    clear hu2
    refine hK.out _ _ (HSV.out _ HU2.out) (fun hH1 => ?_)
    clear hK K
    try simp only [Act.put, List.setIfInBounds_toArray, List.set_cons_zero, List.set_cons_succ]
    refine wpAnyH_ready (rs := [4]) (by kernel_rfl) (by simp) ?_
    refine AllReadyH.cons rfl (fun K hK => ?_) AllReadyH.nil
    go_simp
    refine (HW1.out _).mono ?_
    rintro e w3 ⟨rfl, rfl⟩
    refine hK.out _ _ hH1 (fun hH2 => ?_)
    clear hK K
    try simp only [Act.put, List.setIfInBounds_toArray, List.set_cons_zero, List.set_cons_succ]
    refine wpAnyH_take (i := 5) (v := ?_) rfl (by kernel_rfl) (by kernel_rfl) (by kernel_rfl) (fun _ _ _ h => h) (Or.inl ⟨by kernel_rfl, ?_⟩) hH2 ?_
    rotate_left
    · intro w hSw
      try dsimp only at hSw
      go_simp
      try (with_reducible rfl)
    try simp only [Act.put, List.setIfInBounds_toArray, List.set_cons_zero, List.set_cons_succ]
    cases b1
    · refine wpAnyH_take (i := 6) (v := undef) rfl (by kernel_rfl) (by kernel_rfl) (by kernel_rfl) (fun _ _ _ h => h) (Or.inr ⟨by kernel_rfl, rfl⟩) hH2 ?_
      try simp only [Act.put, List.setIfInBounds_toArray, List.set_cons_zero, List.set_cons_succ]
      refine wpAnyH_take (i := 7) (v := undef) rfl (by kernel_rfl) (by kernel_rfl) (by kernel_rfl) (fun _ _ _ h => h) (Or.inr ⟨by kernel_rfl, rfl⟩) hH2 ?_
      try simp only [Act.put, List.setIfInBounds_toArray, List.set_cons_zero, List.set_cons_succ]
      refine wpAnyH_take (i := 8) (v := undef) rfl (by kernel_rfl) (by kernel_rfl) (by kernel_rfl) (fun _ _ _ h => h) (Or.inr ⟨by kernel_rfl, rfl⟩) hH2 ?_
      try simp only [Act.put, List.setIfInBounds_toArray, List.set_cons_zero, List.set_cons_succ]
      refine wpAnyH_take (i := 9) (v := undef) rfl (by kernel_rfl) (by kernel_rfl) (by kernel_rfl) (fun _ _ _ h => h) (Or.inr ⟨by kernel_rfl, rfl⟩) hH2 ?_
      try simp only [Act.put, List.setIfInBounds_toArray, List.set_cons_zero, List.set_cons_succ]
      refine wpAnyH_take (i := 10) (v := undef) rfl (by kernel_rfl) (by kernel_rfl) (by kernel_rfl) (fun _ _ _ h => h) (Or.inr ⟨by kernel_rfl, rfl⟩) hH2 ?_
      try simp only [Act.put, List.setIfInBounds_toArray, List.set_cons_zero, List.set_cons_succ]
      refine wpAnyH_take (i := 11) (v := ?_) rfl (by kernel_rfl) (by kernel_rfl) (by kernel_rfl) (fun _ _ _ h => h) (Or.inl ⟨by kernel_rfl, ?_⟩) hH2 ?_
      rotate_left
      · intro w hSw
        try dsimp only at hSw
        go_simp
        try (with_reducible rfl)
      try simp only [Act.put, List.setIfInBounds_toArray, List.set_cons_zero, List.set_cons_succ]
      refine wpAnyH_take (i := 12) (v := ?_) rfl (by kernel_rfl) (by kernel_rfl) (by kernel_rfl) (fun _ _ _ h => h) (Or.inl ⟨by kernel_rfl, ?_⟩) hH2 ?_
      rotate_left
      · intro w hSw
        try dsimp only at hSw
        go_simp
        try (with_reducible rfl)
      try simp only [Act.put, List.setIfInBounds_toArray, List.set_cons_zero, List.set_cons_succ]
      refine wpAnyH_done (by kernel_rfl) ?_ _
      try simp only [Act.put, List.setIfInBounds_toArray, List.set_cons_zero, List.set_cons_succ, List.getElem_toArray, List.getElem_cons_succ, List.getElem_cons_zero]
      clear hH0 hH1 hH2
      go_wp2_with fail
      go_ret
      exact ⟨rfl, HU1.out.trans HU2.out⟩
    · skip
      refine wpAnyH_take (i := 6) (v := ?_) rfl (by kernel_rfl) (by kernel_rfl) (by kernel_rfl) (fun _ _ _ h => h) (Or.inl ⟨by kernel_rfl, ?_⟩) hH2 ?_
      rotate_left
      · intro w hSw
        try dsimp only at hSw
        go_simp
        try (with_reducible rfl)
      try simp only [Act.put, List.setIfInBounds_toArray, List.set_cons_zero, List.set_cons_succ]
      refine wpAnyH_take (i := 7) (v := ?_) rfl (by kernel_rfl) (by kernel_rfl) (by kernel_rfl) (fun _ _ _ h => h) (Or.inl ⟨by kernel_rfl, ?_⟩) hH2 ?_
      rotate_left
      · intro w hSw
        try dsimp only at hSw
        go_simp
        try (with_reducible rfl)
      try simp only [Act.put, List.setIfInBounds_toArray, List.set_cons_zero, List.set_cons_succ]
      refine wpAnyH_take (i := 8) (v := ?_) rfl (by kernel_rfl) (by kernel_rfl) (by kernel_rfl) (fun _ _ _ h => h) (Or.inl ⟨by kernel_rfl, ?_⟩) hH2 ?_
      rotate_left
      · intro w hSw
        try dsimp only at hSw
        go_simp
        try (with_reducible rfl)
      try simp only [Act.put, List.setIfInBounds_toArray, List.set_cons_zero, List.set_cons_succ]
      refine wpAnyH_ready (rs := [9]) (by kernel_rfl) (by simp) ?_
      refine AllReadyH.cons rfl (fun K hK => ?_) AllReadyH.nil
      go_simp
      refine (HLO.out _).mono ?_
      rintro e w4 ⟨rfl, hu4⟩
      have HU4 := Lib.hid (HU2.out.trans hu4)
      clear hu4
      refine hK.out _ _ (HSV.out _ HU4.out) (fun hH3 => ?_)
      clear hK K
      try simp only [Act.put, List.setIfInBounds_toArray, List.set_cons_zero, List.set_cons_succ]
      refine wpAnyH_ready (rs := [10]) (by kernel_rfl) (by simp) ?_
      refine AllReadyH.cons rfl (fun K hK => ?_) AllReadyH.nil
      go_simp
      refine (HW2.out _).mono ?_
      rintro e w5 ⟨rfl, rfl⟩
      refine hK.out _ _ hH3 (fun hH4 => ?_)
      clear hK K
      try simp only [Act.put, List.setIfInBounds_toArray, List.set_cons_zero, List.set_cons_succ]
      refine wpAnyH_take (i := 11) (v := ?_) rfl (by kernel_rfl) (by kernel_rfl) (by kernel_rfl) (fun _ _ _ h => h) (Or.inl ⟨by kernel_rfl, ?_⟩) hH4 ?_
      rotate_left
      · intro w hSw
        try dsimp only at hSw
        go_simp
        try (with_reducible rfl)
      try simp only [Act.put, List.setIfInBounds_toArray, List.set_cons_zero, List.set_cons_succ]
      refine wpAnyH_take (i := 12) (v := ?_) rfl (by kernel_rfl) (by kernel_rfl) (by kernel_rfl) (fun _ _ _ h => h) (Or.inl ⟨by kernel_rfl, ?_⟩) hH4 ?_
      rotate_left
      · intro w hSw
        try dsimp only at hSw
        go_simp
        try (with_reducible rfl)
      try simp only [Act.put, List.setIfInBounds_toArray, List.set_cons_zero, List.set_cons_succ]
      refine wpAnyH_done (by kernel_rfl) ?_ _
      try simp only [Act.put, List.setIfInBounds_toArray, List.set_cons_zero, List.set_cons_succ, List.getElem_toArray, List.getElem_cons_succ, List.getElem_cons_zero]
      clear hH0 hH1 hH2 hH3 hH4
      go_wp2_with fail
      go_ret
      exact ⟨rfl, HU1.out.trans HU4.out⟩

end Go.Proofs.Ytlclijnoablejaa
