/-
  Package cell: End.
-/
import Derived.Test.YtedkgamecdmjdaaEnd
import Derived.Deep.RegionHeld3
set_option linter.unusedVariables false
set_option linter.unusedSimpArgs false
namespace Go.Proofs.Ytedkgamecdmjdaa
open Go.RowKit

theorem wrapI_in (d top : Int) (h : 0 ≤ top ∧ top ≤ 1099511627776 := by omega) : 0 ≤ wrapI d top ∧ wrapI d top ≤ top := by
  have e : clampI top 0 1099511627776 = top := by unfold clampI; rw [if_neg (by omega), if_neg (by omega)]
  unfold wrapI
  rw [e]
  have h1 := Int.emod_nonneg d (show top + 1 ≠ 0 by omega)
  have h2 := Int.emod_lt_of_pos d (show 0 < top + 1 by omega)
  omega
/-- What may be otherwise behind a call on a cell. -/
structure CFrame (w w' : World) (h : Nat) (ms ms' : Nat → Value) : Prop where
  os : w'.os = w.os
  tape : w'.tape = w.tape
  output : w'.output = w.output
  size : w.heap.size ≤ w'.heap.size
  block : ∀ k, k < w.heap.size → k ≠ h → (∀ i, i < 8 → (ms i).ownBlock ≠ some k) → w'.heap[k]? = w.heap[k]?
  new : ∀ i, i < 8 → ∀ k, (ms' i).ownBlock = some k → (∃ j, j < 8 ∧ (ms j).ownBlock = some k) ∨ w.heap.size ≤ k
theorem CFrame.refl (w : World) (h : Nat) (ms : Nat → Value) : CFrame w w h ms ms := ⟨rfl, rfl, rfl, Nat.le_refl _, fun _ _ _ _ => rfl, fun i hi k hk => .inl ⟨i, hi, hk⟩⟩
theorem CFrame.ofUp {w w' : World} {h : Nat} {ms : Nat → Value} (u : Up w w') : CFrame w w' h ms ms := ⟨u.os, u.tape, u.output, u.size, fun k hk _ _ => u.block k hk, fun i hi k hk => .inl ⟨i, hi, hk⟩⟩
theorem st5_below (w : World) (b o N : Nat) (v0 v1 v2 v3 v4 : Value) (h : N ≤ b) : Below N w (st5 w b o v0 v1 v2 v3 v4) :=
  (((((Below.refl N w).setCell (p := ⟨b, o, none⟩) h _).setCell (p := ⟨b, o + 1, none⟩) h _).setCell (p := ⟨b, o + 2, none⟩) h _).setCell (p := ⟨b, o + 3, none⟩) h _).setCell (p := ⟨b, o + 4, none⟩) h _
theorem CFrame.up {w w1 w2 : World} {h : Nat} {ms ms' : Nat → Value} (f : CFrame w w1 h ms ms') (u : Up w1 w2) : CFrame w w2 h ms ms' :=
  ⟨u.os.trans f.os, u.tape.trans f.tape, u.output.trans f.output, Nat.le_trans f.size u.size, fun k hk hne hi => (u.block k (Nat.lt_of_lt_of_le hk f.size)).trans (f.block k hk hne hi), f.new⟩
structure CGood (c : CS) (N : Nat) : Prop where
  pos : ∀ i, i < 8 → (c.bys i).on = true → (c.bys i).wr = false → c.kind = 2 → 0 < (c.bys i).may.length
  few : ∀ i, i < 8 → (c.bys i).may.length ≤ N

set_option maxRecDepth 10000 in
set_option maxHeartbeats 4000000 in
theorem end_any (h B N : Nat) (c : CS) (ms : Nat → Value) (t d : Int) (w : World) (H : CellIs w h B c ms) (hg : CGood c N) (hN : N ≤ 1000) :
    Calls Try.prog 46 #[.pointer (some ⟨h, 0, none⟩), .int .i64 t, .int .i64 d] w fun e w' => e = .returned (.tuple #[.int .i64 (c.endA t d).1, .int .i64 (c.endA t d).2.1]) ∧ ∃ ms', CellIs w' h B (c.endA t d).2.2 ms' ∧ CFrame w w' h ms ms' := by
  have HH := Lib.hid H
  by_cases h1 : t < 0
  · have e0 : c.endA t d = (0, 7, c) := by unfold CS.endA; rw [if_pos (.inl h1)]
    rw [e0]
    go_enter Try.func46, Try.ntmps46
    go_wp2_with fail
    go_ret2
    exact ⟨rfl, ms, HH.out, CFrame.refl _ _ _⟩
  by_cases h2 : 8 ≤ t
  · have e0 : c.endA t d = (0, 7, c) := by unfold CS.endA; rw [if_pos (.inr h2)]
    rw [e0]
    go_enter Try.func46, Try.ntmps46
    go_wp2_with fail
    go_ret2
    exact ⟨rfl, ms, HH.out, CFrame.refl _ _ _⟩
  obtain ⟨tn, rfl⟩ : ∃ tn : Nat, t = tn := ⟨t.toNat, by omega⟩
  have htn : tn < 8 := by omega
  obtain ⟨x0, x1, x2, x3, x4⟩ := H.acc tn htn
  have hi1 : ¬ (8 : Int) ≤ tn := h2
  have ht0 : (0 : Int) ≤ tn := by omega
  have ht8 : (tn : Int) < 8 := by omega
  cases hon : (c.bys tn).on
  · have e0 : c.endA tn d = (0, 7, c) := by unfold CS.endA; rw [if_neg (by omega), Int.toNat_natCast, if_pos hon]
    rw [e0]
    rw [hon] at x0
    clear H hon x1 x2 x3 x4 e0
    go_enter Try.func46, Try.ntmps46
    go_wp2_with fail
    go_ret2
    exact ⟨rfl, ms, HH.out, CFrame.refl _ _ _⟩
  obtain ⟨Am, cm, hmv, hcm⟩ := (H.own tn htn).form
  rw [hmv] at x4
  obtain ⟨nm, hnm⟩ : ∃ x, (c.bys tn).may.length = x := ⟨_, rfl⟩
  rw [hnm] at x4 hmv hcm
  have HMV := Lib.hid hmv
  have HNM := Lib.hid hnm
  clear hmv hnm
  have k0 := H.k0
  have k1 := H.k1
  have k2 := H.k2
  have fz := H.fz
  have hlt := H.lt
  have HST := Lib.hid (H.store tn htn acc0 (.slice none 0 0) (.inl ⟨rfl, .inl ⟨rfl, rfl⟩⟩) (by simp [Value.ownBlock]) (by simp [Value.ownBlock]))
  have HFR := Lib.hid (show ∀ w', (∀ k, k ≠ h → w'.heap[k]? = w.heap[k]?) → Below 0 w w' → CFrame w w' h ms (setM ms tn (.slice none 0 0)) from
    fun w' hk hb => ⟨hb.os, hb.tape, hb.output, hb.size, fun k _ hne _ => hk k hne, fun i hi k hik => by
      unfold setM at hik
      split at hik
      · simp [Value.ownBlock] at hik
      · exact .inl ⟨i, hi, hik⟩⟩)
  have HFU := Lib.hid (show ∀ (w1 w2 : World) (ms' : Nat → Value), CFrame w w1 h ms ms' → Up w1 w2 → CFrame w w2 h ms ms' from fun w1 w2 ms' f u => f.up u)
  rw [hon] at x0
  cases hwr : (c.bys tn).wr
  rotate_left
  · rw [hwr] at x1
    have e0 : c.endA tn d = (0, 0, { c.put tn acc0 with value := (c.bys tn).val }) := by unfold CS.endA; rw [if_neg (by omega), Int.toNat_natCast, if_neg (by simp [hon]), if_pos hwr]
    rw [e0]
    have HP := Lib.hid (show ∀ o, ∃ ms', CellIs (((st5 w h (3 + tn * 5) (.bool false) (.bool false) (.int .i64 0) (.bool false) (.slice none 0 0)).setCell ⟨h, 2, none⟩ (.int .i64 (c.bys tn).val)).alloc o) h B { c.put tn acc0 with value := (c.bys tn).val } ms' ∧ CFrame w (((st5 w h (3 + tn * 5) (.bool false) (.bool false) (.int .i64 0) (.bool false) (.slice none 0 0)).setCell ⟨h, 2, none⟩ (.int .i64 (c.bys tn).val)).alloc o) h ms ms' from fun o =>
      ⟨setM ms tn (.slice none 0 0), (HST.out.val _).up ((Up.refl _).alloc o), HFU.out _ _ _ (HFR.out _ (fun k hne => (Below.heap_setCell (st5 w h (3 + tn * 5) (.bool false) (.bool false) (.int .i64 0) (.bool false) (.slice none 0 0)) ⟨h, 2, none⟩ _ k hne).trans (st5_other _ _ _ _ _ _ _ _ _ hne)) ((st5_below w h (3 + tn * 5) 0 _ _ _ _ _ (Nat.zero_le _)).setCell (p := ⟨h, 2, none⟩) (Nat.zero_le _) _)) ((Up.refl _).alloc o)⟩)
    clear H hon hwr e0
    go_enter Try.func46, Try.ntmps46
    go_wp2_with fail
    go_ret2
    exact ⟨rfl, HP.out _⟩
  rw [hwr] at x1
  have e0 : c.endA tn d = (tellC c (c.bys tn) d, 0, c.put tn acc0) := by unfold CS.endA; rw [if_neg (by omega), Int.toNat_natCast, if_neg (by simp [hon]), if_neg (by simp [hwr])]
  rw [e0]
  have HP := Lib.hid (show ∀ o, ∃ ms', CellIs ((st5 w h (3 + tn * 5) (.bool false) (.bool false) (.int .i64 0) (.bool false) (.slice none 0 0)).alloc o) h B (c.put tn acc0) ms' ∧ CFrame w ((st5 w h (3 + tn * 5) (.bool false) (.bool false) (.int .i64 0) (.bool false) (.slice none 0 0)).alloc o) h ms ms' from fun o =>
    ⟨setM ms tn (.slice none 0 0), HST.out.up ((Up.refl _).alloc o), HFU.out _ _ _ (HFR.out _ (fun k hne => st5_other _ _ _ _ _ _ _ _ _ hne) (st5_below w h (3 + tn * 5) 0 _ _ _ _ _ (Nat.zero_le _))) ((Up.refl _).alloc o)⟩)
  obtain ⟨ov, hov⟩ : ∃ x, (c.bys tn).ov = x := ⟨_, rfl⟩
  rw [hov] at x3
  obtain ⟨kd, hkd⟩ : ∃ x, c.kind = x := ⟨_, rfl⟩
  rw [hkd] at k0
  have HTE := Lib.hid (show tellC c (c.bys tn) d = if kd = 1 ∧ ov = true then wrapI d c.top else if kd = 2 then (c.bys tn).may.getD (wrapI d ((nm : Int) - 1)).toNat 0 else c.value from by unfold tellC; rw [hkd, hov, HNM.out])
  have HWR := Lib.hid (fun n top W => nwrap_any n top W)
  have HGP := Lib.hid (show kd = 2 → 0 < nm from fun e => by have := hg.pos tn htn hon hwr (by rw [hkd, e]); rw [HNM.out] at this; exact this)
  have HMA := Lib.hid (show MayIs w B (.slice Am nm cm) (c.bys tn).may from by rw [← HMV.out]; exact H.own tn htn)
  have HAP := Lib.hid (show (Value.slice Am nm cm).ownBlock ≠ some h from by rw [← HMV.out]; exact H.apart tn htn)
  clear H hon hwr e0 hov hkd
  by_cases hk1 : kd = 1
  · subst hk1
    cases ov
    · have HT2 := Lib.hid (HTE.out.trans (by rw [if_neg (by simp), if_neg (by decide)]))
      go_enter Try.func46, Try.ntmps46
      go_wp2_with fail
      go_ret2
      exact ⟨by rw [HT2.out]; rfl, HP.out _⟩
    · have HT2 := Lib.hid (HTE.out.trans (by rw [if_pos ⟨rfl, rfl⟩]))
      go_enter Try.func46, Try.ntmps46
      go_wp2_with fail
      refine (HWR.out _ _ _).mono ?_
      rintro e w1 ⟨rfl, rfl⟩
      go_wp2_with fail
      go_ret2
      exact ⟨by rw [HT2.out]; rfl, HP.out _⟩
  by_cases hk2 : kd = 2
  rotate_left
  · have HT2 := Lib.hid (HTE.out.trans (by rw [if_neg (fun e => hk1 e.1), if_neg hk2]))
    have q1 : (kd == 1) = false := by rw [beq_eq_false_iff_ne]; exact hk1
    have q2 : (kd == 2) = false := by rw [beq_eq_false_iff_ne]; exact hk2
    go_enter Try.func46, Try.ntmps46
    go_wp2_with fail
    go_ret2
    exact ⟨by rw [HT2.out]; rfl, HP.out _⟩
  subst hk2
  have hpos := HGP.out rfl
  have hfew : nm ≤ 1000 := by have := hg.few tn htn; rw [HNM.out] at this; omega
  have hw := wrapI_in d ((nm : Int) - 1) (by omega)
  obtain ⟨ix, hix⟩ : ∃ i : Nat, wrapI d ((nm : Int) - 1) = i := ⟨(wrapI d ((nm : Int) - 1)).toNat, by omega⟩
  rw [hix] at hw
  have HT2 := Lib.hid (HTE.out.trans (by rw [if_neg (by simp), if_pos rfl, hix, Int.toNat_natCast]))
  obtain ⟨x, hx⟩ : ∃ x, (c.bys tn).may.getD ix 0 = x := ⟨_, rfl⟩
  rw [hx] at HT2
  obtain ⟨g, hAm, hgs, hrow⟩ : ∃ g, Am = some ⟨g, 0, none⟩ ∧ g < w.heap.size ∧ ∀ j u, (icells (c.bys tn).may)[j]? = some u → w.cell? ⟨g, j, none⟩ = some u := by
    rcases HMA.out with h1 | ⟨g, h1, h2, h3, h4⟩
    · rcases h1.2 with ⟨_, hn⟩ | ⟨g, cap, cur, hv, hb, hh, h5, _⟩
      · rw [HNM.out] at hn; omega
      · simp only [Value.slice.injEq] at hv
        refine ⟨g, hv.1, (Array.getElem?_eq_some_iff.1 hh).1, fun j u hu => ?_⟩
        have := h1.cells (g := g) (by rw [hv.1]; rfl) j u hu
        rw [Go.WideShapes.add_plain, Nat.zero_add] at this
        exact this
    · simp only [Value.slice.injEq] at h1
      exact ⟨g, h1.1, h3, h4⟩
  subst hAm
  have hgh : g ≠ h := fun e => HAP.out (by rw [e]; rfl)
  have hxc : w.cell? ⟨g, ix, none⟩ = some (.int .i64 x) := hrow ix _ (by unfold icells; rw [List.getElem?_map, List.getElem?_eq_getElem (by rw [HNM.out]; omega)]; rw [← hx, getD_lt (by rw [HNM.out]; omega)]; rfl)
  have hU : Up (st5 w h (3 + tn * 5) (.bool false) (.bool false) (.int .i64 0) (.bool false) (.slice none 0 0)) ((st5 w h (3 + tn * 5) (.bool false) (.bool false) (.int .i64 0) (.bool false) (.slice none 0 0)).alloc (.cells #[.bool true, .bool false, .int .i64 (c.bys tn).val, .bool ov, .slice (some ⟨g, 0, none⟩) nm cm] 106)) := (Up.refl _).alloc _
  have hsz : (st5 w h (3 + tn * 5) (.bool false) (.bool false) (.int .i64 0) (.bool false) (.slice none 0 0)).heap.size = w.heap.size := st5_size _ _ _ _ _ _ _ _
  have hbx := heap_alloc_new (st5 w h (3 + tn * 5) (.bool false) (.bool false) (.int .i64 0) (.bool false) (.slice none 0 0)) (.cells #[.bool true, .bool false, .int .i64 (c.bys tn).val, .bool ov, .slice (some ⟨g, 0, none⟩) nm cm] 106)
  rw [hsz] at hbx
  have S0 : ((st5 w h (3 + tn * 5) (.bool false) (.bool false) (.int .i64 0) (.bool false) (.slice none 0 0)).alloc (.cells #[.bool true, .bool false, .int .i64 (c.bys tn).val, .bool ov, .slice (some ⟨g, 0, none⟩) nm cm] 106)).cell? ⟨w.heap.size, 4, none⟩ = some (.slice (some ⟨g, 0, none⟩) nm cm) ∧ ((st5 w h (3 + tn * 5) (.bool false) (.bool false) (.int .i64 0) (.bool false) (.slice none 0 0)).alloc (.cells #[.bool true, .bool false, .int .i64 (c.bys tn).val, .bool ov, .slice (some ⟨g, 0, none⟩) nm cm] 106)).cell? ⟨g, ix, none⟩ = some (.int .i64 x) := ⟨cell_of_row _ _ 4 _ _ _ hbx, (cellE ((hU.block g (by rw [hsz]; exact hgs)).trans (st5_other _ _ _ _ _ _ _ _ _ hgh))).trans hxc⟩
  have HS0 := Lib.hid S0
  have HC2 := Lib.hid (show ∀ W, Calls Try.prog 54 #[.int .i64 d, .int .i64 ((nm : Int) - 1)] W fun e w' => e = .returned (.int .i64 (ix : Int)) ∧ w' = W from fun W => by have := HWR.out d ((nm : Int) - 1) W; rw [hix] at this; exact this)
  have hxi : (ix : Int) < nm := by omega
  have hx0 : (0 : Int) ≤ ix := by omega
  have hw1 : IntKind.i64.wrap ((nm : Int) - 1) = (nm : Int) - 1 := by simp [IntKind.wrap, IntKind.bits, IntKind.signed]; omega
  have hw2 : wrap64 ((nm : Int) - 1) = (nm : Int) - 1 := IntWalk.wrap64_in _ (by omega)
  obtain ⟨W, hW⟩ : ∃ x, (st5 w h (3 + tn * 5) (.bool false) (.bool false) (.int .i64 0) (.bool false) (.slice none 0 0)).alloc (.cells #[.bool true, .bool false, .int .i64 (c.bys tn).val, .bool ov, .slice (some ⟨g, 0, none⟩) nm cm] 106) = x := ⟨_, rfl⟩
  have HPW := Lib.hid (show ∃ ms', CellIs W h B (c.put tn acc0) ms' ∧ CFrame w W h ms ms' from by rw [← hW]; exact HP.out _)
  rw [hW] at HS0
  unfold st5 at hW
  have HW := Lib.hid hW
  clear S0 hrow hx hxc hU hsz hbx hix hw hpos HTE HMA HGP HWR HP HST HFR HFU HH hW
  go_enter Try.func46, Try.ntmps46
  go_wp2_with fail
  rw [HW.out]
  clear x0 x1 x2 x3 x4 k0 k1 k2 fz
  refine wp_region_held_drew (S := fun w' => w'.cell? ⟨w.heap.size, 4, none⟩ = some (.slice (some ⟨g, 0, none⟩) nm cm) ∧ w'.cell? ⟨g, ix, none⟩ = some (.int .i64 x)) (by kernel_rfl) HS0.out (fun hH0 => ?_)
  refine wpAnyH_take (i := 0) (v := ?_) rfl (by kernel_rfl) (by kernel_rfl) (by kernel_rfl) (fun _ _ _ h => h) (Or.inl ⟨by kernel_rfl, ?_⟩) hH0 ?_
  rotate_left
  · intro w hSw
    try dsimp only at hSw
    go_simp
    try (with_reducible rfl)
  try simp only [Act.put, List.setIfInBounds_toArray, List.set_cons_zero, List.set_cons_succ]
  refine wpAnyH_take (i := 1) (v := ?_) rfl (by kernel_rfl) (by kernel_rfl) (by kernel_rfl) (fun _ _ _ h => h) (Or.inl ⟨by kernel_rfl, ?_⟩) hH0 ?_
  rotate_left
  · intro w hSw
    try dsimp only at hSw
    go_simp
    try (with_reducible rfl)
  try simp only [Act.put, List.setIfInBounds_toArray, List.set_cons_zero, List.set_cons_succ]
  refine wpAnyH_take (i := 2) (v := ?_) rfl (by kernel_rfl) (by kernel_rfl) (by kernel_rfl) (fun _ _ _ h => h) (Or.inl ⟨by kernel_rfl, ?_⟩) hH0 ?_
  rotate_left
  · intro w hSw
    try dsimp only at hSw
    go_simp
    try (with_reducible rfl)
  try simp only [Act.put, List.setIfInBounds_toArray, List.set_cons_zero, List.set_cons_succ]
  refine wpAnyH_take (i := 3) (v := ?_) rfl (by kernel_rfl) (by kernel_rfl) (by kernel_rfl) (fun _ _ _ h => h) (Or.inl ⟨by kernel_rfl, ?_⟩) hH0 ?_
  rotate_left
  · intro w hSw
    try dsimp only at hSw
    go_simp
    try (with_reducible rfl)
  try simp only [Act.put, List.setIfInBounds_toArray, List.set_cons_zero, List.set_cons_succ]
  refine wpAnyH_take (i := 4) (v := ?_) rfl (by kernel_rfl) (by kernel_rfl) (by kernel_rfl) (fun _ _ _ h => h) (Or.inl ⟨by kernel_rfl, ?_⟩) hH0 ?_
  rotate_left
  · intro w hSw
    try dsimp only at hSw
    go_simp
    try (with_reducible rfl)
  try simp only [Act.put, List.setIfInBounds_toArray, List.set_cons_zero, List.set_cons_succ]
  refine wpAnyH_take (i := 5) (v := ?_) rfl (by kernel_rfl) (by kernel_rfl) (by kernel_rfl) (fun _ _ _ h => h) (Or.inl ⟨by kernel_rfl, ?_⟩) hH0 ?_
  rotate_left
  · intro w hSw
    try dsimp only at hSw
    go_simp
    try (with_reducible rfl)
  try simp only [Act.put, List.setIfInBounds_toArray, List.set_cons_zero, List.set_cons_succ]
  refine wpAnyH_take (i := 6) (v := ?_) rfl (by kernel_rfl) (by kernel_rfl) (by kernel_rfl) (fun _ _ _ h => h) (Or.inl ⟨by kernel_rfl, ?_⟩) hH0 ?_
  rotate_left
  · intro w hSw
    try dsimp only at hSw
    go_simp
    try (with_reducible rfl)
  try simp only [Act.put, List.setIfInBounds_toArray, List.set_cons_zero, List.set_cons_succ]
  refine wpAnyH_ready (rs := [7]) (by kernel_rfl) (by simp) ?_
  refine AllReadyH.cons rfl (fun K hK => ?_) AllReadyH.nil
  go_simp
  try rw [hw1]
  refine (HC2.out _).mono ?_
  rintro e w1 ⟨rfl, rfl⟩
  refine hK.out _ _ hH0 (fun hH1 => ?_)
  clear hK K
  try simp only [Act.put, List.setIfInBounds_toArray, List.set_cons_zero, List.set_cons_succ]
  refine wpAnyH_take (i := 8) (v := ?_) rfl (by kernel_rfl) (by kernel_rfl) (by kernel_rfl) (fun _ _ _ h => h) (Or.inl ⟨by kernel_rfl, ?_⟩) hH1 ?_
  rotate_left
  · intro w hSw
    try dsimp only at hSw
    go_simp
    try (with_reducible rfl)
  try simp only [Act.put, List.setIfInBounds_toArray, List.set_cons_zero, List.set_cons_succ]
  refine wpAnyH_take (i := 9) (v := ?_) rfl (by kernel_rfl) (by kernel_rfl) (by kernel_rfl) (fun _ _ _ h => h) (Or.inl ⟨by kernel_rfl, ?_⟩) hH1 ?_
  rotate_left
  · intro w hSw
    try dsimp only at hSw
    go_simp
    try (with_reducible rfl)
  try simp only [Act.put, List.setIfInBounds_toArray, List.set_cons_zero, List.set_cons_succ]
  refine wpAnyH_take (i := 10) (v := ?_) rfl (by kernel_rfl) (by kernel_rfl) (by kernel_rfl) (fun _ _ _ h => h) (Or.inl ⟨by kernel_rfl, ?_⟩) hH1 ?_
  rotate_left
  · intro w hSw
    try dsimp only at hSw
    go_simp
    try (with_reducible rfl)
  try simp only [Act.put, List.setIfInBounds_toArray, List.set_cons_zero, List.set_cons_succ]
  refine wpAnyH_take (i := 11) (v := ?_) rfl (by kernel_rfl) (by kernel_rfl) (by kernel_rfl) (fun _ _ _ h => h) (Or.inl ⟨by kernel_rfl, ?_⟩) hH1 ?_
  rotate_left
  · intro w hSw
    try dsimp only at hSw
    go_simp
    try (with_reducible rfl)
  try simp only [Act.put, List.setIfInBounds_toArray, List.set_cons_zero, List.set_cons_succ]
  refine wpAnyH_done (by kernel_rfl) ?_ _
  simp only [Act.put, List.setIfInBounds_toArray, List.set_cons_zero, List.set_cons_succ, List.getElem_toArray, List.getElem_cons_succ, List.getElem_cons_zero]
  go_wp2_with fail
  go_ret2
  obtain ⟨ms', p1, p2⟩ := HPW.out
  exact ⟨by rw [HT2.out]; rfl, ms', p1.up (Up.refl _).drew, p2.up (Up.refl _).drew⟩

end Go.Proofs.Ytedkgamecdmjdaa
