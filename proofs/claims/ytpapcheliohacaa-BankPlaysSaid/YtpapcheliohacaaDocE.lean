/-
  The document's cell: End.
-/
import Derived.Test.YtpapcheliohacaaDocB
set_option linter.unusedVariables false
set_option linter.unusedSimpArgs false
namespace Go.Proofs.Ytpapcheliohacaa
open Go.RowKit

set_option maxHeartbeats 1000000 in
theorem rwrap_any (n top : Int) (w : World) : Calls Try.prog 35 #[.int .i64 n, .int .i64 top] w fun e w' => e = .returned (.int .i64 (wrapI n top)) ∧ w' = w := by
  have HC := Lib.hid (show Calls Try.prog 38 #[.int .i64 top, .int .i64 0, .int .i64 1099511627776] w fun e w' => e = .returned (.int .i64 (clampI top 0 1099511627776)) ∧ w = w' from within_any top 0 1099511627776 w)
  have hm := clampI_le top
  have HW := Lib.hid (show wrapI n top = n % (clampI top 0 1099511627776 + 1) from rfl)
  obtain ⟨r, hr⟩ : ∃ r, wrapI n top = r := ⟨_, rfl⟩
  rw [hr] at HW ⊢
  generalize clampI top 0 1099511627776 = m at *
  obtain ⟨h1, h2, h3⟩ := tmod_emod n (m + 1) (by omega)
  rw [← HW.out] at h3
  have x1 : wrap64 (m + 1) = m + 1 := IntWalk.wrap64_in _ (by omega)
  have x2 : ((m + 1) == 0) = false := by rw [beq_eq_false_iff_ne]; omega
  have x3 : wrap64 (n.tmod (m + 1)) = n.tmod (m + 1) := IntWalk.wrap64_in _ (by omega)
  have x4 : wrap64 (n.tmod (m + 1) + (m + 1)) = n.tmod (m + 1) + (m + 1) := IntWalk.wrap64_in _ (by omega)
  have x5 : ¬ (m + 1 = 0) := by omega
  have HM := Lib.hid hm
  have H3 := Lib.hid h3
  have H12 := Lib.hid (And.intro h1 h2)
  clear hr h3 hm h1 h2
  go_enter Try.func35, Try.ntmps35
  go_wp2_with fail
  refine HC.out.mono ?_
  rintro e w1 ⟨rfl, rfl⟩
  have X4 := Lib.hid x4
  by_cases hr : n.tmod (m + 1) < 0
  · have HE2 := Lib.hid (H3.out.trans (if_pos hr))
    go_wp2_with fail
    go_ret
    refine ⟨?_, rfl⟩
    rw [HE2.out]
    exact congrArg (fun z => Ending.returned (Value.int .i64 z)) X4.out
  · have HE2 := Lib.hid (H3.out.trans (if_neg hr))
    go_wp2_with fail
    go_ret
    refine ⟨?_, rfl⟩
    rw [HE2.out]
    rfl
theorem findZ_lt (t : Int) : ∀ (L : List DA) (k : Nat), findZ L t k = -1 ∨ ∃ j, j < L.length ∧ findZ L t k = ((k + j : Nat) : Int)
  | [], _ => .inl rfl
  | a :: l, k => by
    unfold findZ
    by_cases ha : hit t a = true
    · rw [if_pos ha]; exact .inr ⟨0, by simp, by simp⟩
    · rw [if_neg ha]
      rcases findZ_lt t l (k + 1) with h | ⟨j, h1, h2⟩
      · exact .inl h
      · exact .inr ⟨j + 1, by simp; omega, by rw [h2]; congr 1; omega⟩

set_option maxRecDepth 10000 in
set_option maxHeartbeats 4000000 in
theorem rend_any (r B : Nat) (D : DS) (Lv : Value) (t d : Int) (w : World) (H : DocIs w r B D Lv) (hL : D.L.length ≤ 1000) (hn : 0 ≤ D.now ∧ D.now ≤ 1000000) :
    Calls Try.prog 11 #[.pointer (some ⟨r, 0, none⟩), .int .i64 t, .int .i64 d] w fun e w' => e = .returned (.tuple #[.int .i64 (D.endA t d).1, .int .i64 (D.endA t d).2.1]) ∧ ∃ Lv', DocIs w' r B (D.endA t d).2.2 Lv' ∧ DFrame w w' r Lv Lv' := by
  have HFI := Lib.hid (find_any r B D Lv t w H hL)
  have HH := Lib.hid H
  rcases findZ_lt t D.L 0 with hz | ⟨j, hj, hz⟩
  · have e0 : D.endA t d = (0, 7, D) := by unfold DS.endA; rw [hz, if_pos (by decide)]
    rw [e0]
    rw [hz] at HFI
    clear H hz e0
    go_enter Try.func11, Try.ntmps11
    go_wp2_with fail
    refine HFI.out.mono ?_
    rintro e w1 ⟨rfl, rfl⟩
    go_wp2_with fail
    go_ret2
    exact ⟨rfl, Lv, HH.out, DFrame.ofUp (Up.refl _)⟩
  rw [Nat.zero_add] at hz
  have HE := Lib.hid (show D.endA t d = if (D.L.getD j da0).k = 2 then (0, 0, { D with now := D.now + 1, L := D.L.set j { D.L.getD j da0 with to := D.now + 1 }, value := (D.L.getD j da0).v }) else
      (if D.kind = 1 ∧ 1 < (seenD (D.L.set j { D.L.getD j da0 with to := D.now + 1 }) (D.L.getD j da0).from_ (D.L.getD j da0).was).length then wrapI d (clampT D.top 1099511627776)
        else if D.kind = 2 then (seenD (D.L.set j { D.L.getD j da0 with to := D.now + 1 }) (D.L.getD j da0).from_ (D.L.getD j da0).was).getD (wrapI d (((seenD (D.L.set j { D.L.getD j da0 with to := D.now + 1 }) (D.L.getD j da0).from_ (D.L.getD j da0).was).length : Int) - 1)).toNat 0 else D.value, 0, { D with now := D.now + 1, L := D.L.set j { D.L.getD j da0 with to := D.now + 1 } }) from by
    unfold DS.endA
    rw [hz, if_neg (by omega)]
    dsimp only
    rw [Int.toNat_natCast])
  rw [hz] at HFI
  obtain ⟨A, cap, hLv, hrow⟩ := H.row
  obtain ⟨g, hA, -⟩ := hrow j hj
  subst hA
  subst hLv
  have hgr : g ≠ r := fun e => H.apart (by rw [← e]; rfl)
  have H1 := H.setNow (D.now + 1)
  have F1 : DFrame w (w.setCell ⟨r, 3, none⟩ (.int .i64 (D.now + 1))) r (.slice (some ⟨g, 0, none⟩) D.L.length cap) (.slice (some ⟨g, 0, none⟩) D.L.length cap) := (DFrame.ofUp (Up.refl w)).store 3 _ (.inl rfl)
  have hw : wrap64 (D.now + 1) = D.now + 1 := IntWalk.wrap64_in _ (by omega)
  have k3 := H.k3
  have f3 := H.fz 3
  obtain ⟨w1, hw1⟩ : ∃ x, w.setCell ⟨r, 3, none⟩ (.int .i64 (D.now + 1)) = x := ⟨_, rfl⟩
  rw [hw1] at H1 F1
  have HD1 := Lib.hid H1
  have HF1 := Lib.hid F1
  have HGR := Lib.hid hgr
  have hji : (j : Int) < D.L.length := by omega
  have hj0 : (0 : Int) ≤ j := by omega
  clear H hrow H1 F1 hz hgr
  go_enter Try.func11, Try.ntmps11
  go_wp2_with fail
  refine HFI.out.mono ?_
  rintro e w' ⟨rfl, rfl⟩
  go_wp2_with fail
  clear k3 f3 hw1
  have k3 := HD1.out.k3
  have k4 := HD1.out.k4
  dsimp only at k3 k4
  have hown := HD1.out.own
  dsimp only at hown
  have fg := hown.frozenAt (j * 7 + 5)
  have x5 : w1.cell? ⟨g, j * 7 + 5, none⟩ = some (.int .i64 (D.L.getD j da0).to) := (hown.cellAt (j * 7 + 5) (by omega)).trans (dcells_at D.L j hj 5 (by decide))
  have hS5 : ∀ v : Value, ((w1.setCell ⟨g, j * 7 + 5, none⟩ v).drew).cell? ⟨r, 3, none⟩ = some (.int .i64 (D.now + 1)) ∧ ((w1.setCell ⟨g, j * 7 + 5, none⟩ v).drew).cell? ⟨r, 4, none⟩ = some (.slice (some ⟨g, 0, none⟩) D.L.length cap) := fun v => by
    have hb : ((w1.setCell ⟨g, j * 7 + 5, none⟩ v).drew).heap[r]? = w1.heap[r]? := Below.heap_setCell w1 ⟨g, j * 7 + 5, none⟩ v r (fun e => HGR.out e.symm)
    exact ⟨(cellE hb).trans k3, (cellE hb).trans k4⟩
  have HS5 := Lib.hid hS5
  have hS0 : w1.drew.cell? ⟨r, 3, none⟩ = some (.int .i64 (D.now + 1)) ∧ w1.drew.cell? ⟨r, 4, none⟩ = some (.slice (some ⟨g, 0, none⟩) D.L.length cap) := ⟨k3, k4⟩
  clear hown hS5
  refine wp_region_held_drew (S := fun w' => w'.cell? ⟨r, 3, none⟩ = some (.int .i64 (D.now + 1)) ∧ w'.cell? ⟨r, 4, none⟩ = some (.slice (some ⟨g, 0, none⟩) D.L.length cap)) (by kernel_rfl) hS0 (fun hH0 => ?_)
  clear hS0 k3 k4
  refine wpAnyH_take (i := 0) (v := ?_) rfl (by kernel_rfl) (by kernel_rfl) (by kernel_rfl) (fun _ _ _ h => h) (Or.inl ⟨by kernel_rfl, ?_⟩) hH0 ?_
  rotate_left
  · intro w hSw
    try dsimp only at hSw
    go_simp
    try (with_reducible rfl)
  try simp only [Act.put, List.setIfInBounds_toArray, List.set_cons_zero, List.set_cons_succ]
  refine wpAnyH_take (i := 1) (v := ?_) rfl (by kernel_rfl) (by kernel_rfl) (by kernel_rfl) (fun _ _ _ h => h) (Or.inl ⟨by kernel_rfl, ?_⟩) hH0 ?_
  rotate_left
  · intro w hSw
    try dsimp only at hSw
    go_simp
    try (with_reducible rfl)
  try simp only [Act.put, List.setIfInBounds_toArray, List.set_cons_zero, List.set_cons_succ]
  refine wpAnyH_take (i := 2) (v := ?_) rfl (by kernel_rfl) (by kernel_rfl) (by kernel_rfl) (fun _ _ _ h => h) (Or.inl ⟨by kernel_rfl, ?_⟩) hH0 ?_
  rotate_left
  · intro w hSw
    try dsimp only at hSw
    go_simp
    try (with_reducible rfl)
  try simp only [Act.put, List.setIfInBounds_toArray, List.set_cons_zero, List.set_cons_succ]
  refine wpAnyH_take (i := 3) (v := ?_) rfl (by kernel_rfl) (by kernel_rfl) (by kernel_rfl) (fun _ _ _ h => h) (Or.inl ⟨by kernel_rfl, ?_⟩) hH0 ?_
  rotate_left
  · intro w hSw
    try dsimp only at hSw
    go_simp
    try (with_reducible rfl)
  try simp only [Act.put, List.setIfInBounds_toArray, List.set_cons_zero, List.set_cons_succ]
  refine wpAnyH_take (i := 4) (v := ?_) rfl (by kernel_rfl) (by kernel_rfl) (by kernel_rfl) (fun _ _ _ h => h) (Or.inl ⟨by kernel_rfl, ?_⟩) hH0 ?_
  rotate_left
  · intro w hSw
    try dsimp only at hSw
    go_simp
    try (with_reducible rfl)
  try simp only [Act.put, List.setIfInBounds_toArray, List.set_cons_zero, List.set_cons_succ]
  refine wpAnyH_take (i := 5) (v := ?_) rfl (by kernel_rfl) (by kernel_rfl) (by kernel_rfl) (fun _ _ _ h => h) (Or.inl ⟨by kernel_rfl, ?_⟩) hH0 ?_
  rotate_left
  · intro w hSw
    try dsimp only at hSw
    go_simp
    try (with_reducible rfl)
  try simp only [Act.put, List.setIfInBounds_toArray, List.set_cons_zero, List.set_cons_succ]
  refine wpAnyH_take (i := 6) (v := ?_) rfl (by kernel_rfl) (by kernel_rfl) (by kernel_rfl) (fun _ _ _ h => h) (Or.inl ⟨by kernel_rfl, ?_⟩) hH0 ?_
  rotate_left
  · intro w hSw
    try dsimp only at hSw
    go_simp
    try (with_reducible rfl)
  try simp only [Act.put, List.setIfInBounds_toArray, List.set_cons_zero, List.set_cons_succ]
  refine wpAnyH_take (i := 7) (v := ?_) rfl (by kernel_rfl) (by kernel_rfl) (by kernel_rfl) (fun _ _ _ h => h) (Or.inl ⟨by kernel_rfl, ?_⟩) hH0 ?_
  rotate_left
  · intro w hSw
    try dsimp only at hSw
    go_simp
    try (with_reducible rfl)
  try simp only [Act.put, List.setIfInBounds_toArray, List.set_cons_zero, List.set_cons_succ]
  refine wpAnyH_take (i := 8) (v := ?_) rfl (by kernel_rfl) (by kernel_rfl) (by kernel_rfl) (fun _ _ _ h => h) (Or.inl ⟨by kernel_rfl, ?_⟩) hH0 ?_
  rotate_left
  · intro w hSw
    try dsimp only at hSw
    go_simp
    try (with_reducible rfl)
  try simp only [Act.put, List.setIfInBounds_toArray, List.set_cons_zero, List.set_cons_succ]
  refine wpAnyH_take (i := 9) (v := ?_) rfl (by kernel_rfl) (by kernel_rfl) (by kernel_rfl) (fun _ _ _ h => h) (Or.inl ⟨by kernel_rfl, ?_⟩) hH0 ?_
  rotate_left
  · intro w hSw
    try dsimp only at hSw
    go_simp
    try (with_reducible rfl)
  try simp only [Act.put, List.setIfInBounds_toArray, List.set_cons_zero, List.set_cons_succ]
  refine wpAnyH_take (i := 10) (v := ?_) rfl (by kernel_rfl) (by kernel_rfl) (by kernel_rfl) (fun _ _ _ h => h) (Or.inl ⟨by kernel_rfl, ?_⟩) hH0 ?_
  rotate_left
  · intro w hSw
    try dsimp only at hSw
    go_simp
    try (with_reducible rfl)
  try simp only [Act.put, List.setIfInBounds_toArray, List.set_cons_zero, List.set_cons_succ]
  refine wpAnyH_ready (rs := [11]) (by kernel_rfl) (by simp) ?_
  refine AllReadyH.cons rfl (fun K hK => ?_) AllReadyH.nil
  go_simp
  refine hK.out _ _ (HS5.out _) (fun hH1 => ?_)
  clear hK K
  try simp only [Act.put, List.setIfInBounds_toArray, List.set_cons_zero, List.set_cons_succ]
  refine wpAnyH_done (by kernel_rfl) ?_ _
  try simp only [Act.put, List.setIfInBounds_toArray, List.set_cons_zero, List.set_cons_succ, List.getElem_toArray, List.getElem_cons_succ, List.getElem_cons_zero]
  clear hH0 hH1 x5 fg
  have H2 : DocIs ((w1.setCell ⟨g, j * 7 + 5, none⟩ (.int .i64 (D.now + 1))).drew) r B { D with now := D.now + 1, L := D.L.set j { D.L.getD j da0 with to := D.now + 1 } } (.slice (some ⟨g, 0, none⟩) D.L.length cap) := (HD1.out.setTo j hj (D.now + 1)).up ((Up.refl _).drew)
  have F2 : DFrame w' ((w1.setCell ⟨g, j * 7 + 5, none⟩ (.int .i64 (D.now + 1))).drew) r (.slice (some ⟨g, 0, none⟩) D.L.length cap) (.slice (some ⟨g, 0, none⟩) D.L.length cap) := (HF1.out.storeL (j * 7 + 5) _ rfl).trans (DFrame.ofUp (Up.refl _).drew)
  generalize (w1.setCell ⟨g, j * 7 + 5, none⟩ (.int .i64 (D.now + 1))).drew = W2 at *
  have hget : (D.L.set j { D.L.getD j da0 with to := D.now + 1 }).getD j da0 = { D.L.getD j da0 with to := D.now + 1 } := by
    rw [List.getD_eq_getElem?_getD, List.getElem?_set_self hj]; rfl
  have hlen : (D.L.set j { D.L.getD j da0 with to := D.now + 1 }).length = D.L.length := List.length_set
  have hown := H2.own
  dsimp only at hown
  rw [hlen] at hown
  have c : ∀ q, q < 7 → W2.cell? ⟨g, j * 7 + q, none⟩ = (dcell { D.L.getD j da0 with to := D.now + 1 })[q]? := fun q hq => (hown.cellAt (j * 7 + q) (by omega)).trans ((dcells_at _ j (by rw [hlen]; exact hj) q hq).trans (by rw [hget]))
  have x0 := c 0 (by decide)
  have x1 := c 1 (by decide)
  have x2 := c 2 (by decide)
  have x3 := c 3 (by decide)
  have x4 := c 4 (by decide)
  have x5 := c 5 (by decide)
  have x6 := c 6 (by decide)
  simp only [dcell, List.getElem?_cons_zero, List.getElem?_cons_succ, Nat.add_zero] at x0 x1 x2 x3 x4 x5 x6
  have HSN := Lib.hid (seen_any r B { D with now := D.now + 1, L := D.L.set j { D.L.getD j da0 with to := D.now + 1 } } (.slice (some ⟨g, 0, none⟩) D.L.length cap) { D.L.getD j da0 with to := D.now + 1 } W2 H2 (by dsimp only; rw [hlen]; exact hL))
  unfold actV at HSN
  dsimp only at HSN
  generalize D.L.getD j da0 = a at *
  obtain ⟨at', ak, acl, av, af, ato, aw⟩ := a
  dsimp only at x0 x1 x2 x3 x4 x5 x6 HSN HE H2
  generalize D.L.set j { t := at', k := ak, cl := acl, v := av, from_ := af, to := D.now + 1, was := aw } = L2 at *
  have k0 := H2.k0
  have k1 := H2.k1
  have k2 := H2.k2
  have k4 := H2.k4
  have f2 := H2.fz 2
  dsimp only at k0 k1 k2 k4
  have HD2 := Lib.hid H2
  have HF2 := Lib.hid F2
  have HLN := Lib.hid hlen
  generalize hnL : D.L.length = nL at *
  have HNL := Lib.hid hnL
  clear hget hlen hown c H2 F2 HD1 HF1 HS5 hnL
  by_cases hk2 : ak = 2
  · subst hk2
    have E0 := Lib.hid (HE.out.trans (if_pos rfl))
    have HDV := Lib.hid (HD2.out.setValue av)
    have HFV := Lib.hid (HF2.out.store (b := r) 2 (.int .i64 av) (.inl rfl))
    clear HE HSN
    go_wp2_with fail
    go_ret2
    rw [E0.out]
    have hN := HNL.out
    subst hN
    exact ⟨rfl, _, HDV.out, HFV.out⟩
  have hk2b : (ak == 2) = false := by rw [beq_eq_false_iff_ne]; exact hk2
  have E0 := Lib.hid (HE.out.trans (if_neg hk2))
  clear HE
  have HSL := Lib.hid (show 1 ≤ (seenD L2 af aw).length ∧ (seenD L2 af aw).length ≤ 1000000 from by
    have h1 := earlyN_few L2 af 8
    have h2 := filter_few L2 (lateB af) L2.length (Nat.le_refl _)
    rw [List.take_length] at h2
    have h3 := HLN.out
    unfold seenD lateL
    simp only [List.length_append, List.length_cons, List.length_nil]
    omega)
  generalize seenD L2 af aw = S at *
  go_wp2_with fail
  refine HSN.out.mono ?_
  rintro e w3 ⟨v, rfl, hu, hown⟩
  obtain ⟨A3, c3, rfl, hr3, -⟩ := own_row hown (f := IVal S) (fun q hq => iVal_map hq)
  have HR3 := Lib.hid hr3
  have HD3 := Lib.hid (HD2.out.up hu)
  have HF3 := Lib.hid (HF2.out.trans (DFrame.ofUp hu))
  have k0 := HD3.out.k0
  have k1 := HD3.out.k1
  have k2 := HD3.out.k2
  dsimp only at k0 k1 k2
  obtain ⟨sn, hsn⟩ : ∃ q, S.length = q := ⟨_, rfl⟩
  have HSE := Lib.hid hsn
  rw [hsn] at HR3 HSL E0
  clear hr3 hown hu HSN HD2 HF2 x0 x1 x2 x3 x4 x5 x6 k4 f2 hw hji hj0 HFI
  generalize hkd : D.kind = kd at *
  have HKD := Lib.hid hkd
  have HS1 := Lib.hid HSL.out.1
  clear hkd
  rw [hsn]
  clear hsn
  by_cases q1 : kd = 1 ∧ 1 < sn
  · obtain ⟨rfl, q2⟩ := q1
    have e1 := E0.out
    rw [if_pos ⟨rfl, q2⟩] at e1
    have E1 := Lib.hid e1
    have q3 : (1 : Int) < (sn : Int) := by omega
    clear e1
    go_wp2_with fail
    refine (rclamp_any _ _ _).mono ?_
    rintro e w4 ⟨rfl, rfl⟩
    go_wp2_with fail
    refine (rwrap_any _ _ _).mono ?_
    rintro e w5 ⟨rfl, rfl⟩
    go_wp2_with fail
    go_ret2
    rw [E1.out]
    have hN := HNL.out
    subst hN
    exact ⟨rfl, _, HD3.out, HF3.out⟩
  have e1 := E0.out
  rw [if_neg q1] at e1
  have E1 := Lib.hid e1
  clear e1
  have hq : (kd == 1) = false ∨ ((kd == 1) = true ∧ (sn : Int) ≤ 1) := by
    by_cases h1 : kd = 1
    · exact .inr ⟨by rw [beq_iff_eq]; exact h1, by have : ¬ 1 < sn := fun h => q1 ⟨h1, h⟩; omega⟩
    · exact .inl (by rw [beq_eq_false_iff_ne]; exact h1)
  by_cases h2 : kd = 2
  · subst h2
    have e2 := E1.out
    rw [if_pos rfl] at e2
    have E2 := Lib.hid e2
    clear e2 E1 hq q1
    have hsn : wrap64 ((sn : Int) - 1) = (sn : Int) - 1 := IntWalk.wrap64_in _ (by have := HSL.out; omega)
    have hw := wrapI_in d ((sn : Int) - 1) (by have := HSL.out; omega)
    go_wp2_with fail
    refine (rwrap_any _ _ _).mono ?_
    rintro e w5 ⟨rfl, rfl⟩
    obtain ⟨m, hm⟩ : ∃ m : Nat, wrapI d ((sn : Int) - 1) = m := ⟨(wrapI d ((sn : Int) - 1)).toNat, by omega⟩
    rw [hm] at hw E2 ⊢
    rw [Int.toNat_natCast] at E2
    have hm0 : (0 : Int) ≤ m := by omega
    have hms : (m : Int) < sn := by omega
    obtain ⟨b3, o3, rfl, hx⟩ := HR3.out m (by omega)
    unfold IVal at hx
    clear hm hw hsn
    go_wp2_with fail
    go_ret2
    rw [E2.out]
    have hN := HNL.out
    subst hN
    exact ⟨rfl, _, HD3.out, HF3.out⟩
  · have h2b : (kd == 2) = false := by rw [beq_eq_false_iff_ne]; exact h2
    have e2 := E1.out
    rw [if_neg h2] at e2
    have E2 := Lib.hid e2
    clear e2 E1 q1
    rcases hq with hq | ⟨hq, hq2⟩
    · go_wp2_with fail
      go_ret2
      rw [E2.out]
      have hN := HNL.out
      subst hN
      exact ⟨rfl, _, HD3.out, HF3.out⟩
    · go_wp2_with fail
      go_ret2
      rw [E2.out]
      have hN := HNL.out
      subst hN
      exact ⟨rfl, _, HD3.out, HF3.out⟩

end Go.Proofs.Ytpapcheliohacaa
