/-
  Package tromp: Read and Write, on the program's tape.
-/
import Derived.Test.YtpandnodeldbjaaTrompP
import Derived.Test.YtpandnodeldbjaaOpW
set_option linter.unusedVariables false
set_option linter.unusedSimpArgs false
namespace Go.Proofs.Ytpandnodeldbjaa
open Go.RowKit

theorem near (x : Int) (h0 : -1099511627776 ≤ x) (h1 : x ≤ 1099511627776) : wrap64 x = x ∧ wrap64 (x + 1) = x + 1 ∧ wrap64 (x + 2) = x + 2 ∧ wrap64 (x + 3) = x + 3 :=
  ⟨IntWalk.wrap64_in _ (by omega), IntWalk.wrap64_in _ (by omega), IntWalk.wrap64_in _ (by omega), IntWalk.wrap64_in _ (by omega)⟩

theorem near2 (x : Int) (h0 : -1099511627776 ≤ x) (h1 : x ≤ 1099511627776) : IntKind.i64.wrap x = x ∧ IntKind.i64.wrap (x + 1) = x + 1 ∧ IntKind.i64.wrap (x + 2) = x + 2 ∧ IntKind.i64.wrap (x + 3) = x + 3 :=
  ⟨i64w _ (by omega) (by omega), i64w _ (by omega) (by omega), i64w _ (by omega) (by omega), i64w _ (by omega) (by omega)⟩

set_option maxRecDepth 10000 in
set_option maxHeartbeats 400000 in
theorem trompW_any (k b lo n wr rd tp v : Int) (g B : Nat) (s : TS) (w : World) (h : Tape1 w g B s) (hb0 : -1099511627776 ≤ b) (hb1 : b ≤ 1099511627776) (hl0 : -1099511627776 ≤ lo) (hl1 : lo ≤ 1099511627776) :
    Calls Try.prog 48 #[.pointer (some ⟨g, 0, none⟩), regV k b lo n wr rd tp, .int .i64 v] w (TPost encU g B w ((trW b lo v).onT s)) := by
  obtain ⟨x0, x1, x2, -⟩ := near b hb0 hb1
  obtain ⟨y0, y1, -, -⟩ := near lo hl0 hl1
  have hU : Up w (w.alloc (.cells (regC k b lo n wr rd tp) 50)) := (Up.refl w).alloc _
  have hb := reg_box w k b lo n wr rd tp
  have hgs := h.1.gs
  have HT := Lib.hid (h.up hU)
  have HU := Lib.hid (TK.ofUp (g := g) (B := B) hU)
  have HKB := Lib.hid (fun (w' : World) (k2 : TK g B (w.alloc (.cells (regC k b lo n wr rd tp) 50)) w') => reg_cells (k2.one hb (by omega) (.inr (by decide))))
  have hc := reg_cells hb
  unfold regV
  unfold regC at *
  generalize hW : w.alloc (.cells #[.int .i64 k, .int .i64 b, .int .i64 lo, .int .i64 n, .int .i64 wr, .int .i64 rd, .int .i64 tp] 50) = W0 at *
  have HW := Lib.hid hW
  obtain ⟨c1, c2⟩ := hc
  obtain ⟨R, hR⟩ : ∃ R, (trW b lo v).onT s = R := ⟨_, rfl⟩
  rw [hR]
  unfold trW at hR
  obtain ⟨u, hu⟩ : ∃ u, bitI v = u := ⟨_, rfl⟩
  rw [hu] at hR
  have HE := Lib.hid hR
  unfold bitI at hu
  clear h hU hR hb hb0 hb1 hl0 hl1 hW
  by_cases hv : v = 0
  all_goals
    first | rw [if_pos hv] at hu | rw [if_neg hv] at hu
    subst hu
    first | subst hv | have hv2 : (v == 0) = false := by rw [beq_eq_false_iff_ne]; exact hv
    go_enter Try.func48, Try.ntmps48
    go_wp2_with fail
    rw [HW.out]
    refine (get_step HT.out HE.out).mono ?_
    rintro e w1 ⟨x, rfl, rfl, E1⟩
    rcases eq_onT E1 with ⟨rfl, E2⟩ | ⟨hx, E2⟩
    · go_wp2_with fail
      go_end0
      exact TPost.some E2.out.symm ⟨rfl, HT.out, HU.out⟩
    go_wp2_with fail
    refine (write_step (k := fun _ => _) HT.out E2.out).mono ?_
    rintro e w2 (⟨s2, rfl, H2, K2, E3⟩ | ⟨_, s2, rfl, H2, K2, E3⟩)
    · go_wp2_with fail
      exact ⟨rfl, TPost.none E3.out ⟨rfl, H2.out, HU.out.trans K2.out⟩⟩
    obtain ⟨d1, d2⟩ := HKB.out w2 K2.out
    have HK2 := Lib.hid (HU.out.trans K2.out)
    clear c1 c2 hx E1 E2 HE
    unfold encU
    go_wp2_with fail
    refine (set_step H2.out E3.out).mono ?_
    rintro e w3 ⟨rfl, s3, H3, K3, E4⟩
    have K23 := Lib.hid (K2.out.trans K3.out)
    obtain ⟨c1, c2⟩ := HKB.out w3 K23.out
    clear d1 d2 K2 K3 H2 E3 HT
    go_wp2_with fail
    refine (get_step H3.out E4.out).mono ?_
    rintro e w3' ⟨x, rfl, rfl, E5⟩
    go_wp2_with fail
    refine (read_step H3.out E5.out).mono ?_
    rintro e w4 (⟨s4, rfl, H4, K4, E6⟩ | ⟨y, s4, rfl, H4, K4, E6⟩)
    · go_wp2_with fail
      exact ⟨rfl, TPost.none E6.out ⟨rfl, H4.out, HU.out.trans (K23.out.trans K4.out)⟩⟩
    have K34 := Lib.hid (K23.out.trans K4.out)
    obtain ⟨d1, d2⟩ := HKB.out w4 K34.out
    clear c1 c2 K23 K4 H3 E5 E4
    unfold encI
    rcases eq_onT E6 with ⟨rfl, E7⟩ | ⟨hy, E7⟩
    rotate_left
    · go_wp2_with fail
      go_end0
      exact TPost.some E7.out.symm ⟨rfl, H4.out, HU.out.trans K34.out⟩
    go_wp2_with fail
    refine (write_step (k := fun _ => _) H4.out E7.out).mono ?_
    rintro e w5 (⟨s5, rfl, H5, K5, E8⟩ | ⟨_, s5, rfl, H5, K5, E8⟩)
    · go_wp2_with fail
      exact ⟨rfl, TPost.none E8.out ⟨rfl, H5.out, HU.out.trans (K34.out.trans K5.out)⟩⟩
    have K45 := Lib.hid (K34.out.trans K5.out)
    obtain ⟨c1, c2⟩ := HKB.out w5 K45.out
    clear d1 d2 K5 K34 H4 E6 E7
    unfold encU
    go_wp2_with fail
    refine (set_step H5.out E8.out).mono ?_
    rintro e w6 ⟨rfl, s6, H6, K6, E9⟩
    clear c1 c2
    go_wp2_with fail
    go_end0
    exact TPost.some E9.out.symm ⟨rfl, H6.out, HU.out.trans (K45.out.trans K6.out)⟩

set_option maxRecDepth 10000 in
set_option maxHeartbeats 1000000 in
theorem trompR_any (k b lo n wr rd tp : Int) (g B : Nat) (s : TS) (w : World) (h : Tape1 w g B s) (hb0 : -1099511627776 ≤ b) (hb1 : b ≤ 1099511627776) (hl0 : -1099511627776 ≤ lo) (hl1 : lo ≤ 1099511627776) :
    Calls Try.prog 47 #[.pointer (some ⟨g, 0, none⟩), regV k b lo n wr rd tp] w (TPost encI g B w ((trR b lo).onT s)) := by
  obtain ⟨x0, x1, x2, -⟩ := near b hb0 hb1
  obtain ⟨-, -, y2, y3⟩ := near lo hl0 hl1
  obtain ⟨v0, v1, v2, -⟩ := near2 b hb0 hb1
  obtain ⟨-, -, u2, u3⟩ := near2 lo hl0 hl1
  have hU : Up w (w.alloc (.cells (regC k b lo n wr rd tp) 50)) := (Up.refl w).alloc _
  have hb := reg_box w k b lo n wr rd tp
  have hgs := h.1.gs
  have HT := Lib.hid (h.up hU)
  have HU := Lib.hid (TK.ofUp (g := g) (B := B) hU)
  have HKB := Lib.hid (fun (w' : World) (k2 : TK g B (w.alloc (.cells (regC k b lo n wr rd tp) 50)) w') => reg_cells (k2.one hb (by omega) (.inr (by decide))))
  have hc := reg_cells hb
  unfold regV
  unfold regC at *
  generalize hW : w.alloc (.cells #[.int .i64 k, .int .i64 b, .int .i64 lo, .int .i64 n, .int .i64 wr, .int .i64 rd, .int .i64 tp] 50) = W0 at *
  have HW := Lib.hid hW
  obtain ⟨c1, c2⟩ := hc
  obtain ⟨R, hR⟩ : ∃ R, (trR b lo).onT s = R := ⟨_, rfl⟩
  rw [hR]
  unfold trR at hR
  have HE := Lib.hid hR
  clear h hU hR hb hb0 hb1 hl0 hl1 hW
  go_enter Try.func47, Try.ntmps47
  go_wp2_with fail
  have K0 := Lib.hid (TK.refl g B W0)
  have HS := Lib.hid (show ∀ w', TK g B W0 w' → w'.cell? ⟨w.heap.size, 1, none⟩ = some (.int .i64 b) ∧ w'.cell? ⟨w.heap.size, 2, none⟩ = some (.int .i64 lo) from HKB.out)
  clear c1 c2 HKB
  refine wp_scope_hop 0 rfl (fun J hJ => ?_)
  go_wp2_with fail
  try rw [HW.out]
  have HD1 := Lib.hid (HT.out.up (Up.refl _).drew)
  have KD1 := Lib.hid K0.out.drew
  clear HT K0
  refine wp_region_held_drew (S := fun w' => w'.cell? ⟨w.heap.size, 1, none⟩ = some (.int .i64 b) ∧ w'.cell? ⟨w.heap.size, 2, none⟩ = some (.int .i64 lo)) (by kernel_rfl) (HS.out _ KD1.out) (fun hH0 => ?_)
  refine wpAnyH_take (i := 0) (v := ?_) rfl (by kernel_rfl) (by kernel_rfl) (by kernel_rfl) (fun _ _ _ h => h) (Or.inl ⟨by kernel_rfl, ?_⟩) hH0 ?_
  rotate_left
  · intro w hSw
    try dsimp only at hSw
    go_simp
    try (with_reducible rfl)
  try simp only [Act.put, List.setIfInBounds_toArray, List.set_cons_zero, List.set_cons_succ]
  refine wpAnyH_take (i := 1) (v := ?_) rfl (by kernel_rfl) (by kernel_rfl) (by kernel_rfl) (fun _ _ _ h => h) (Or.inl ⟨by kernel_rfl, ?_⟩) hH0 ?_
  rotate_left
  · intro w hSw
    try dsimp only at hSw
    go_simp
    try (with_reducible rfl)
  try simp only [Act.put, List.setIfInBounds_toArray, List.set_cons_zero, List.set_cons_succ]
  refine wpAnyH_take (i := 2) (v := ?_) rfl (by kernel_rfl) (by kernel_rfl) (by kernel_rfl) (fun _ _ _ h => h) (Or.inl ⟨by kernel_rfl, ?_⟩) hH0 ?_
  rotate_left
  · intro w hSw
    try dsimp only at hSw
    go_simp
    try (with_reducible rfl)
  try simp only [Act.put, List.setIfInBounds_toArray, List.set_cons_zero, List.set_cons_succ]
  refine wpAnyH_take (i := 3) (v := ?_) rfl (by kernel_rfl) (by kernel_rfl) (by kernel_rfl) (fun _ _ _ h => h) (Or.inl ⟨by kernel_rfl, ?_⟩) hH0 ?_
  rotate_left
  · intro w hSw
    try dsimp only at hSw
    go_simp
    try (with_reducible rfl)
  try simp only [Act.put, List.setIfInBounds_toArray, List.set_cons_zero, List.set_cons_succ]
  refine wpAnyH_take (i := 5) (v := ?_) rfl (by kernel_rfl) (by kernel_rfl) (by kernel_rfl) (fun _ _ _ h => h) (Or.inl ⟨by kernel_rfl, ?_⟩) hH0 ?_
  rotate_left
  · intro w hSw
    try dsimp only at hSw
    go_simp
    try (with_reducible rfl)
  try simp only [Act.put, List.setIfInBounds_toArray, List.set_cons_zero, List.set_cons_succ]
  refine wpAnyH_take (i := 6) (v := ?_) rfl (by kernel_rfl) (by kernel_rfl) (by kernel_rfl) (fun _ _ _ h => h) (Or.inl ⟨by kernel_rfl, ?_⟩) hH0 ?_
  rotate_left
  · intro w hSw
    try dsimp only at hSw
    go_simp
    try (with_reducible rfl)
  try simp only [Act.put, List.setIfInBounds_toArray, List.set_cons_zero, List.set_cons_succ]
  refine wpAnyH_take (i := 7) (v := ?_) rfl (by kernel_rfl) (by kernel_rfl) (by kernel_rfl) (fun _ _ _ h => h) (Or.inl ⟨by kernel_rfl, ?_⟩) hH0 ?_
  rotate_left
  · intro w hSw
    try dsimp only at hSw
    go_simp
    try (with_reducible rfl)
  try simp only [Act.put, List.setIfInBounds_toArray, List.set_cons_zero, List.set_cons_succ]
  refine wpAnyH_take (i := 8) (v := ?_) rfl (by kernel_rfl) (by kernel_rfl) (by kernel_rfl) (fun _ _ _ h => h) (Or.inl ⟨by kernel_rfl, ?_⟩) hH0 ?_
  rotate_left
  · intro w hSw
    try dsimp only at hSw
    go_simp
    try (with_reducible rfl)
  try simp only [Act.put, List.setIfInBounds_toArray, List.set_cons_zero, List.set_cons_succ]
  refine wpAnyH_ready (rs := [4]) (by kernel_rfl) (by simp) ?_
  refine AllReadyH.cons rfl (fun K hK => ?_) AllReadyH.nil
  go_simp
  try simp only [v0, v1, v2, u2, u3]
  refine (read_step HD1.out HE.out).mono ?_
  rintro e w2 (⟨s2, rfl, H2, J2, E2⟩ | ⟨x, s2, rfl, H2, J2, E2⟩)
  · dsimp only
    clear hK K
    go_wp2_with fail
    exact ⟨rfl, TPost.none E2.out ⟨rfl, H2.out, HU.out.trans (KD1.out.trans J2.out)⟩⟩
  unfold encI
  have K2 := Lib.hid (KD1.out.trans J2.out)
  clear HD1 KD1 HE J2
  have T10 := HS.out _ K2.out
  refine hK.out _ _ T10 (fun hG10 => ?_)
  clear hK K
  try simp only [Act.put, List.setIfInBounds_toArray, List.set_cons_zero, List.set_cons_succ]
  clear hH0
  refine wpAnyH_ready (rs := [9]) (by kernel_rfl) (by simp) ?_
  refine AllReadyH.cons rfl (fun K hK => ?_) AllReadyH.nil
  go_simp
  try simp only [v0, v1, v2, u2, u3]
  refine (get_step H2.out E2.out).mono ?_
  rintro e w3 ⟨y, rfl, rfl, E3⟩
  clear E2
  have T11 := HS.out _ K2.out
  refine hK.out _ _ T11 (fun hG11 => ?_)
  clear hK K
  try simp only [Act.put, List.setIfInBounds_toArray, List.set_cons_zero, List.set_cons_succ]
  clear hG10
  refine wpAnyH_take (i := 10) (v := ?_) rfl (by kernel_rfl) (by kernel_rfl) (by kernel_rfl) (fun _ _ _ h => h) (Or.inl ⟨by kernel_rfl, ?_⟩) hG11 ?_
  rotate_left
  · intro w hSw
    try dsimp only at hSw
    go_simp
    try (with_reducible rfl)
  try simp only [Act.put, List.setIfInBounds_toArray, List.set_cons_zero, List.set_cons_succ]
  refine wpAnyH_done (by kernel_rfl) ?_ _
  try simp only [Act.put, List.setIfInBounds_toArray, List.set_cons_zero, List.set_cons_succ, List.getElem_toArray, List.getElem_cons_succ, List.getElem_cons_zero]
  clear hG11
  rcases eq_onT E3 with ⟨rfl, E4⟩ | ⟨h4, E4⟩
  all_goals clear E3
  · obtain ⟨c1, c2⟩ := HS.out _ K2.out
    go_wp2_with fail
    refine (get_step H2.out E4.out).mono ?_
    rintro e w5 ⟨z, rfl, rfl, E5⟩
    clear E4
    go_wp2_with fail
    go_step3
    refine ⟨rfl, hJ.out _ _ ?_⟩
    go_wp2_with fail
    rw [Exit.noGoto_ret]
    go_ret
    exact TPost.some E5.out.symm ⟨rfl, H2.out, HU.out.trans K2.out⟩
  obtain ⟨c1, c2⟩ := HS.out _ K2.out
  go_wp2_with fail
  refine (read_step H2.out E4.out).mono ?_
  rintro e w6 (⟨s6, rfl, H6, J6, E6⟩ | ⟨x, s6, rfl, H6, J6, E6⟩)
  · go_wp2_with fail
    exact ⟨rfl, TPost.none E6.out ⟨rfl, H6.out, HU.out.trans (K2.out.trans J6.out)⟩⟩
  unfold encI
  have K6 := Lib.hid (K2.out.trans J6.out)
  clear H2 K2 E4 J6
  clear c1 c2
  go_wp2_with fail
  try rw [HW.out]
  have HD7 := Lib.hid (H6.out.up (Up.refl _).drew)
  have KD7 := Lib.hid K6.out.drew
  clear H6 K6
  refine wp_region_held_drew (S := fun w' => w'.cell? ⟨w.heap.size, 1, none⟩ = some (.int .i64 b) ∧ w'.cell? ⟨w.heap.size, 2, none⟩ = some (.int .i64 lo)) (by kernel_rfl) (HS.out _ KD7.out) (fun hH0 => ?_)
  refine wpAnyH_take (i := 0) (v := ?_) rfl (by kernel_rfl) (by kernel_rfl) (by kernel_rfl) (fun _ _ _ h => h) (Or.inl ⟨by kernel_rfl, ?_⟩) hH0 ?_
  rotate_left
  · intro w hSw
    try dsimp only at hSw
    go_simp
    try (with_reducible rfl)
  try simp only [Act.put, List.setIfInBounds_toArray, List.set_cons_zero, List.set_cons_succ]
  refine wpAnyH_take (i := 1) (v := ?_) rfl (by kernel_rfl) (by kernel_rfl) (by kernel_rfl) (fun _ _ _ h => h) (Or.inl ⟨by kernel_rfl, ?_⟩) hH0 ?_
  rotate_left
  · intro w hSw
    try dsimp only at hSw
    go_simp
    try (with_reducible rfl)
  try simp only [Act.put, List.setIfInBounds_toArray, List.set_cons_zero, List.set_cons_succ]
  refine wpAnyH_take (i := 2) (v := ?_) rfl (by kernel_rfl) (by kernel_rfl) (by kernel_rfl) (fun _ _ _ h => h) (Or.inl ⟨by kernel_rfl, ?_⟩) hH0 ?_
  rotate_left
  · intro w hSw
    try dsimp only at hSw
    go_simp
    try (with_reducible rfl)
  try simp only [Act.put, List.setIfInBounds_toArray, List.set_cons_zero, List.set_cons_succ]
  refine wpAnyH_take (i := 3) (v := ?_) rfl (by kernel_rfl) (by kernel_rfl) (by kernel_rfl) (fun _ _ _ h => h) (Or.inl ⟨by kernel_rfl, ?_⟩) hH0 ?_
  rotate_left
  · intro w hSw
    try dsimp only at hSw
    go_simp
    try (with_reducible rfl)
  try simp only [Act.put, List.setIfInBounds_toArray, List.set_cons_zero, List.set_cons_succ]
  refine wpAnyH_take (i := 5) (v := ?_) rfl (by kernel_rfl) (by kernel_rfl) (by kernel_rfl) (fun _ _ _ h => h) (Or.inl ⟨by kernel_rfl, ?_⟩) hH0 ?_
  rotate_left
  · intro w hSw
    try dsimp only at hSw
    go_simp
    try (with_reducible rfl)
  try simp only [Act.put, List.setIfInBounds_toArray, List.set_cons_zero, List.set_cons_succ]
  refine wpAnyH_take (i := 6) (v := ?_) rfl (by kernel_rfl) (by kernel_rfl) (by kernel_rfl) (fun _ _ _ h => h) (Or.inl ⟨by kernel_rfl, ?_⟩) hH0 ?_
  rotate_left
  · intro w hSw
    try dsimp only at hSw
    go_simp
    try (with_reducible rfl)
  try simp only [Act.put, List.setIfInBounds_toArray, List.set_cons_zero, List.set_cons_succ]
  refine wpAnyH_take (i := 7) (v := ?_) rfl (by kernel_rfl) (by kernel_rfl) (by kernel_rfl) (fun _ _ _ h => h) (Or.inl ⟨by kernel_rfl, ?_⟩) hH0 ?_
  rotate_left
  · intro w hSw
    try dsimp only at hSw
    go_simp
    try (with_reducible rfl)
  try simp only [Act.put, List.setIfInBounds_toArray, List.set_cons_zero, List.set_cons_succ]
  refine wpAnyH_take (i := 8) (v := ?_) rfl (by kernel_rfl) (by kernel_rfl) (by kernel_rfl) (fun _ _ _ h => h) (Or.inl ⟨by kernel_rfl, ?_⟩) hH0 ?_
  rotate_left
  · intro w hSw
    try dsimp only at hSw
    go_simp
    try (with_reducible rfl)
  try simp only [Act.put, List.setIfInBounds_toArray, List.set_cons_zero, List.set_cons_succ]
  refine wpAnyH_ready (rs := [4]) (by kernel_rfl) (by simp) ?_
  refine AllReadyH.cons rfl (fun K hK => ?_) AllReadyH.nil
  go_simp
  try simp only [v0, v1, v2, u2, u3]
  refine (read_step HD7.out E6.out).mono ?_
  rintro e w8 (⟨s8, rfl, H8, J8, E8⟩ | ⟨y, s8, rfl, H8, J8, E8⟩)
  · dsimp only
    clear hK K
    go_wp2_with fail
    exact ⟨rfl, TPost.none E8.out ⟨rfl, H8.out, HU.out.trans (KD7.out.trans J8.out)⟩⟩
  unfold encI
  have K8 := Lib.hid (KD7.out.trans J8.out)
  clear HD7 KD7 E6 J8
  have T70 := HS.out _ K8.out
  refine hK.out _ _ T70 (fun hG70 => ?_)
  clear hK K
  try simp only [Act.put, List.setIfInBounds_toArray, List.set_cons_zero, List.set_cons_succ]
  clear hH0
  refine wpAnyH_ready (rs := [9]) (by kernel_rfl) (by simp) ?_
  refine AllReadyH.cons rfl (fun K hK => ?_) AllReadyH.nil
  go_simp
  try simp only [v0, v1, v2, u2, u3]
  refine (get_step H8.out E8.out).mono ?_
  rintro e w9 ⟨z, rfl, rfl, E9⟩
  clear E8
  have T71 := HS.out _ K8.out
  refine hK.out _ _ T71 (fun hG71 => ?_)
  clear hK K
  try simp only [Act.put, List.setIfInBounds_toArray, List.set_cons_zero, List.set_cons_succ]
  clear hG70
  refine wpAnyH_take (i := 10) (v := ?_) rfl (by kernel_rfl) (by kernel_rfl) (by kernel_rfl) (fun _ _ _ h => h) (Or.inl ⟨by kernel_rfl, ?_⟩) hG71 ?_
  rotate_left
  · intro w hSw
    try dsimp only at hSw
    go_simp
    try (with_reducible rfl)
  try simp only [Act.put, List.setIfInBounds_toArray, List.set_cons_zero, List.set_cons_succ]
  refine wpAnyH_done (by kernel_rfl) ?_ _
  try simp only [Act.put, List.setIfInBounds_toArray, List.set_cons_zero, List.set_cons_succ, List.getElem_toArray, List.getElem_cons_succ, List.getElem_cons_zero]
  clear hG71
  have E10 := Lib.hid (show (trTurn b lo y z (trEnd b lo x)).onT s8 = R from E9.out)
  clear E9
  unfold trTurn at E10
  rcases eq_onT E10 with ⟨rfl, E11⟩ | ⟨h11, E11⟩
  all_goals clear E10
  rotate_left
  obtain ⟨c1, c2⟩ := HS.out _ K8.out
  go_wp2_with fail
  refine (get_step H8.out E11.out).mono ?_
  rintro e w12 ⟨u, rfl, rfl, E12⟩
  clear E11
  go_wp2_with fail
  refine (write_step (k := fun _ => _) H8.out E12.out).mono ?_
  rintro e w13 (⟨s13, rfl, H13, J13, E13⟩ | ⟨_, s13, rfl, H13, J13, E13⟩)
  · go_wp2_with fail
    exact ⟨rfl, TPost.none E13.out ⟨rfl, H13.out, HU.out.trans (K8.out.trans J13.out)⟩⟩
  unfold encU
  have K13 := Lib.hid (K8.out.trans J13.out)
  clear H8 K8 E12 J13
  clear c1 c2
  obtain ⟨c1, c2⟩ := HS.out _ K13.out
  go_wp2_with fail
  refine (set_step H13.out E13.out).mono ?_
  rintro e w14 ⟨rfl, s14, H14, J14, E14⟩
  have K14 := Lib.hid (K13.out.trans J14.out)
  clear H13 K13 E13 J14
  clear c1 c2
  have HZ := H14
  have KZ := K14
  have EZ := E14
  clear H14 K14 E14
  rotate_left
  have HZ := H8
  have KZ := K8
  have EZ := E11
  clear H8 K8 E11
  all_goals
    have E15 := Lib.hid (show (trEnd b lo x).onT _ = R from EZ.out)
    clear EZ
    unfold trEnd at E15
    go_wp2_with fail
    try rw [HW.out]
    have HD16 := Lib.hid (HZ.out.up (Up.refl _).drew)
    have KD16 := Lib.hid KZ.out.drew
    clear HZ KZ
    refine wp_region_held_drew (S := fun w' => w'.cell? ⟨w.heap.size, 1, none⟩ = some (.int .i64 b) ∧ w'.cell? ⟨w.heap.size, 2, none⟩ = some (.int .i64 lo)) (by kernel_rfl) (HS.out _ KD16.out) (fun hH0 => ?_)
    refine wpAnyH_take (i := 0) (v := ?_) rfl (by kernel_rfl) (by kernel_rfl) (by kernel_rfl) (fun _ _ _ h => h) (Or.inl ⟨by kernel_rfl, ?_⟩) hH0 ?_
    rotate_left
    · intro w hSw
      try dsimp only at hSw
      go_simp
      try (with_reducible rfl)
    try simp only [Act.put, List.setIfInBounds_toArray, List.set_cons_zero, List.set_cons_succ]
    refine wpAnyH_take (i := 1) (v := ?_) rfl (by kernel_rfl) (by kernel_rfl) (by kernel_rfl) (fun _ _ _ h => h) (Or.inl ⟨by kernel_rfl, ?_⟩) hH0 ?_
    rotate_left
    · intro w hSw
      try dsimp only at hSw
      go_simp
      try (with_reducible rfl)
    try simp only [Act.put, List.setIfInBounds_toArray, List.set_cons_zero, List.set_cons_succ]
    refine wpAnyH_take (i := 2) (v := ?_) rfl (by kernel_rfl) (by kernel_rfl) (by kernel_rfl) (fun _ _ _ h => h) (Or.inl ⟨by kernel_rfl, ?_⟩) hH0 ?_
    rotate_left
    · intro w hSw
      try dsimp only at hSw
      go_simp
      try (with_reducible rfl)
    try simp only [Act.put, List.setIfInBounds_toArray, List.set_cons_zero, List.set_cons_succ]
    refine wpAnyH_take (i := 3) (v := ?_) rfl (by kernel_rfl) (by kernel_rfl) (by kernel_rfl) (fun _ _ _ h => h) (Or.inl ⟨by kernel_rfl, ?_⟩) hH0 ?_
    rotate_left
    · intro w hSw
      try dsimp only at hSw
      go_simp
      try (with_reducible rfl)
    try simp only [Act.put, List.setIfInBounds_toArray, List.set_cons_zero, List.set_cons_succ]
    refine wpAnyH_take (i := 4) (v := ?_) rfl (by kernel_rfl) (by kernel_rfl) (by kernel_rfl) (fun _ _ _ h => h) (Or.inl ⟨by kernel_rfl, ?_⟩) hH0 ?_
    rotate_left
    · intro w hSw
      try dsimp only at hSw
      go_simp
      try (with_reducible rfl)
    try simp only [Act.put, List.setIfInBounds_toArray, List.set_cons_zero, List.set_cons_succ]
    refine wpAnyH_take (i := 5) (v := ?_) rfl (by kernel_rfl) (by kernel_rfl) (by kernel_rfl) (fun _ _ _ h => h) (Or.inl ⟨by kernel_rfl, ?_⟩) hH0 ?_
    rotate_left
    · intro w hSw
      try dsimp only at hSw
      go_simp
      try (with_reducible rfl)
    try simp only [Act.put, List.setIfInBounds_toArray, List.set_cons_zero, List.set_cons_succ]
    refine wpAnyH_take (i := 6) (v := ?_) rfl (by kernel_rfl) (by kernel_rfl) (by kernel_rfl) (fun _ _ _ h => h) (Or.inl ⟨by kernel_rfl, ?_⟩) hH0 ?_
    rotate_left
    · intro w hSw
      try dsimp only at hSw
      go_simp
      try (with_reducible rfl)
    try simp only [Act.put, List.setIfInBounds_toArray, List.set_cons_zero, List.set_cons_succ]
    refine wpAnyH_take (i := 7) (v := ?_) rfl (by kernel_rfl) (by kernel_rfl) (by kernel_rfl) (fun _ _ _ h => h) (Or.inl ⟨by kernel_rfl, ?_⟩) hH0 ?_
    rotate_left
    · intro w hSw
      try dsimp only at hSw
      go_simp
      try (with_reducible rfl)
    try simp only [Act.put, List.setIfInBounds_toArray, List.set_cons_zero, List.set_cons_succ]
    refine wpAnyH_ready (rs := [8]) (by kernel_rfl) (by simp) ?_
    refine AllReadyH.cons rfl (fun K hK => ?_) AllReadyH.nil
    go_simp
    try simp only [v0, v1, v2, u2, u3]
    refine (read_step HD16.out E15.out).mono ?_
    rintro e w17 (⟨s17, rfl, H17, J17, E17⟩ | ⟨v, s17, rfl, H17, J17, E17⟩)
    · dsimp only
      clear hK K
      go_wp2_with fail
      exact ⟨rfl, TPost.none E17.out ⟨rfl, H17.out, HU.out.trans (KD16.out.trans J17.out)⟩⟩
    unfold encI
    have K17 := Lib.hid (KD16.out.trans J17.out)
    clear HD16 KD16 E15 J17
    have T160 := HS.out _ K17.out
    refine hK.out _ _ T160 (fun hG160 => ?_)
    clear hK K
    try simp only [Act.put, List.setIfInBounds_toArray, List.set_cons_zero, List.set_cons_succ]
    clear hH0
    refine wpAnyH_ready (rs := [9]) (by kernel_rfl) (by simp) ?_
    refine AllReadyH.cons rfl (fun K hK => ?_) AllReadyH.nil
    go_simp
    try simp only [v0, v1, v2, u2, u3]
    refine (set_step H17.out E17.out).mono ?_
    rintro e w18 ⟨rfl, s18, H18, J18, E18⟩
    have K18 := Lib.hid (K17.out.trans J18.out)
    clear H17 K17 E17 J18
    have T161 := HS.out _ K18.out
    refine hK.out _ _ T161 (fun hG161 => ?_)
    clear hK K
    try simp only [Act.put, List.setIfInBounds_toArray, List.set_cons_zero, List.set_cons_succ]
    clear hG160
    refine wpAnyH_done (by kernel_rfl) ?_ _
    try simp only [Act.put, List.setIfInBounds_toArray, List.set_cons_zero, List.set_cons_succ, List.getElem_toArray, List.getElem_cons_succ, List.getElem_cons_zero]
    clear hG161
    go_wp2_with fail
    try rw [HW.out]
    have HD19 := Lib.hid (H18.out.up (Up.refl _).drew)
    have KD19 := Lib.hid K18.out.drew
    clear H18 K18
    refine wp_region_held_drew (S := fun w' => w'.cell? ⟨w.heap.size, 1, none⟩ = some (.int .i64 b) ∧ w'.cell? ⟨w.heap.size, 2, none⟩ = some (.int .i64 lo)) (by kernel_rfl) (HS.out _ KD19.out) (fun hH0 => ?_)
    refine wpAnyH_take (i := 0) (v := ?_) rfl (by kernel_rfl) (by kernel_rfl) (by kernel_rfl) (fun _ _ _ h => h) (Or.inl ⟨by kernel_rfl, ?_⟩) hH0 ?_
    rotate_left
    · intro w hSw
      try dsimp only at hSw
      go_simp
      try (with_reducible rfl)
    try simp only [Act.put, List.setIfInBounds_toArray, List.set_cons_zero, List.set_cons_succ]
    refine wpAnyH_take (i := 1) (v := ?_) rfl (by kernel_rfl) (by kernel_rfl) (by kernel_rfl) (fun _ _ _ h => h) (Or.inl ⟨by kernel_rfl, ?_⟩) hH0 ?_
    rotate_left
    · intro w hSw
      try dsimp only at hSw
      go_simp
      try (with_reducible rfl)
    try simp only [Act.put, List.setIfInBounds_toArray, List.set_cons_zero, List.set_cons_succ]
    refine wpAnyH_take (i := 2) (v := ?_) rfl (by kernel_rfl) (by kernel_rfl) (by kernel_rfl) (fun _ _ _ h => h) (Or.inl ⟨by kernel_rfl, ?_⟩) hH0 ?_
    rotate_left
    · intro w hSw
      try dsimp only at hSw
      go_simp
      try (with_reducible rfl)
    try simp only [Act.put, List.setIfInBounds_toArray, List.set_cons_zero, List.set_cons_succ]
    refine wpAnyH_take (i := 3) (v := ?_) rfl (by kernel_rfl) (by kernel_rfl) (by kernel_rfl) (fun _ _ _ h => h) (Or.inl ⟨by kernel_rfl, ?_⟩) hH0 ?_
    rotate_left
    · intro w hSw
      try dsimp only at hSw
      go_simp
      try (with_reducible rfl)
    try simp only [Act.put, List.setIfInBounds_toArray, List.set_cons_zero, List.set_cons_succ]
    refine wpAnyH_take (i := 5) (v := ?_) rfl (by kernel_rfl) (by kernel_rfl) (by kernel_rfl) (fun _ _ _ h => h) (Or.inl ⟨by kernel_rfl, ?_⟩) hH0 ?_
    rotate_left
    · intro w hSw
      try dsimp only at hSw
      go_simp
      try (with_reducible rfl)
    try simp only [Act.put, List.setIfInBounds_toArray, List.set_cons_zero, List.set_cons_succ]
    refine wpAnyH_take (i := 6) (v := ?_) rfl (by kernel_rfl) (by kernel_rfl) (by kernel_rfl) (fun _ _ _ h => h) (Or.inl ⟨by kernel_rfl, ?_⟩) hH0 ?_
    rotate_left
    · intro w hSw
      try dsimp only at hSw
      go_simp
      try (with_reducible rfl)
    try simp only [Act.put, List.setIfInBounds_toArray, List.set_cons_zero, List.set_cons_succ]
    refine wpAnyH_take (i := 7) (v := ?_) rfl (by kernel_rfl) (by kernel_rfl) (by kernel_rfl) (fun _ _ _ h => h) (Or.inl ⟨by kernel_rfl, ?_⟩) hH0 ?_
    rotate_left
    · intro w hSw
      try dsimp only at hSw
      go_simp
      try (with_reducible rfl)
    try simp only [Act.put, List.setIfInBounds_toArray, List.set_cons_zero, List.set_cons_succ]
    refine wpAnyH_take (i := 8) (v := ?_) rfl (by kernel_rfl) (by kernel_rfl) (by kernel_rfl) (fun _ _ _ h => h) (Or.inl ⟨by kernel_rfl, ?_⟩) hH0 ?_
    rotate_left
    · intro w hSw
      try dsimp only at hSw
      go_simp
      try (with_reducible rfl)
    try simp only [Act.put, List.setIfInBounds_toArray, List.set_cons_zero, List.set_cons_succ]
    refine wpAnyH_ready (rs := [4]) (by kernel_rfl) (by simp) ?_
    refine AllReadyH.cons rfl (fun K hK => ?_) AllReadyH.nil
    go_simp
    try simp only [v0, v1, v2, u2, u3]
    refine (read_step HD19.out E18.out).mono ?_
    rintro e w20 (⟨s20, rfl, H20, J20, E20⟩ | ⟨y2, s20, rfl, H20, J20, E20⟩)
    · dsimp only
      clear hK K
      go_wp2_with fail
      exact ⟨rfl, TPost.none E20.out ⟨rfl, H20.out, HU.out.trans (KD19.out.trans J20.out)⟩⟩
    unfold encI
    have K20 := Lib.hid (KD19.out.trans J20.out)
    clear HD19 KD19 E18 J20
    have T190 := HS.out _ K20.out
    refine hK.out _ _ T190 (fun hG190 => ?_)
    clear hK K
    try simp only [Act.put, List.setIfInBounds_toArray, List.set_cons_zero, List.set_cons_succ]
    clear hH0
    refine wpAnyH_ready (rs := [9]) (by kernel_rfl) (by simp) ?_
    refine AllReadyH.cons rfl (fun K hK => ?_) AllReadyH.nil
    go_simp
    try simp only [v0, v1, v2, u2, u3]
    refine (get_step H20.out E20.out).mono ?_
    rintro e w21 ⟨z2, rfl, rfl, E21⟩
    clear E20
    have T191 := HS.out _ K20.out
    refine hK.out _ _ T191 (fun hG191 => ?_)
    clear hK K
    try simp only [Act.put, List.setIfInBounds_toArray, List.set_cons_zero, List.set_cons_succ]
    clear hG190
    refine wpAnyH_take (i := 10) (v := ?_) rfl (by kernel_rfl) (by kernel_rfl) (by kernel_rfl) (fun _ _ _ h => h) (Or.inl ⟨by kernel_rfl, ?_⟩) hG191 ?_
    rotate_left
    · intro w hSw
      try dsimp only at hSw
      go_simp
      try (with_reducible rfl)
    try simp only [Act.put, List.setIfInBounds_toArray, List.set_cons_zero, List.set_cons_succ]
    refine wpAnyH_done (by kernel_rfl) ?_ _
    try simp only [Act.put, List.setIfInBounds_toArray, List.set_cons_zero, List.set_cons_succ, List.getElem_toArray, List.getElem_cons_succ, List.getElem_cons_zero]
    clear hG191
    rcases eq_onT E21 with ⟨rfl, E22⟩ | ⟨h22, E22⟩
    all_goals clear E21
    · obtain ⟨c1, c2⟩ := HS.out _ K20.out
      go_wp2_with fail
      refine (get_step H20.out E22.out).mono ?_
      rintro e w23 ⟨z, rfl, rfl, E23⟩
      clear E22
      go_wp2_with fail
      go_step3
      refine ⟨rfl, hJ.out _ _ ?_⟩
      go_wp2_with fail
      rw [Exit.noGoto_ret]
      go_ret
      exact TPost.some E23.out.symm ⟨rfl, H20.out, HU.out.trans K20.out⟩
    go_wp2_with fail
    try rw [HW.out]
    have HD24 := Lib.hid (H20.out.up (Up.refl _).drew)
    have KD24 := Lib.hid K20.out.drew
    clear H20 K20
    refine wp_region_held_drew (S := fun w' => w'.cell? ⟨w.heap.size, 1, none⟩ = some (.int .i64 b) ∧ w'.cell? ⟨w.heap.size, 2, none⟩ = some (.int .i64 lo)) (by kernel_rfl) (HS.out _ KD24.out) (fun hH0 => ?_)
    refine wpAnyH_take (i := 0) (v := ?_) rfl (by kernel_rfl) (by kernel_rfl) (by kernel_rfl) (fun _ _ _ h => h) (Or.inl ⟨by kernel_rfl, ?_⟩) hH0 ?_
    rotate_left
    · intro w hSw
      try dsimp only at hSw
      go_simp
      try (with_reducible rfl)
    try simp only [Act.put, List.setIfInBounds_toArray, List.set_cons_zero, List.set_cons_succ]
    refine wpAnyH_take (i := 1) (v := ?_) rfl (by kernel_rfl) (by kernel_rfl) (by kernel_rfl) (fun _ _ _ h => h) (Or.inl ⟨by kernel_rfl, ?_⟩) hH0 ?_
    rotate_left
    · intro w hSw
      try dsimp only at hSw
      go_simp
      try (with_reducible rfl)
    try simp only [Act.put, List.setIfInBounds_toArray, List.set_cons_zero, List.set_cons_succ]
    refine wpAnyH_take (i := 2) (v := ?_) rfl (by kernel_rfl) (by kernel_rfl) (by kernel_rfl) (fun _ _ _ h => h) (Or.inl ⟨by kernel_rfl, ?_⟩) hH0 ?_
    rotate_left
    · intro w hSw
      try dsimp only at hSw
      go_simp
      try (with_reducible rfl)
    try simp only [Act.put, List.setIfInBounds_toArray, List.set_cons_zero, List.set_cons_succ]
    refine wpAnyH_take (i := 3) (v := ?_) rfl (by kernel_rfl) (by kernel_rfl) (by kernel_rfl) (fun _ _ _ h => h) (Or.inl ⟨by kernel_rfl, ?_⟩) hH0 ?_
    rotate_left
    · intro w hSw
      try dsimp only at hSw
      go_simp
      try (with_reducible rfl)
    try simp only [Act.put, List.setIfInBounds_toArray, List.set_cons_zero, List.set_cons_succ]
    refine wpAnyH_take (i := 4) (v := ?_) rfl (by kernel_rfl) (by kernel_rfl) (by kernel_rfl) (fun _ _ _ h => h) (Or.inl ⟨by kernel_rfl, ?_⟩) hH0 ?_
    rotate_left
    · intro w hSw
      try dsimp only at hSw
      go_simp
      try (with_reducible rfl)
    try simp only [Act.put, List.setIfInBounds_toArray, List.set_cons_zero, List.set_cons_succ]
    refine wpAnyH_take (i := 5) (v := ?_) rfl (by kernel_rfl) (by kernel_rfl) (by kernel_rfl) (fun _ _ _ h => h) (Or.inl ⟨by kernel_rfl, ?_⟩) hH0 ?_
    rotate_left
    · intro w hSw
      try dsimp only at hSw
      go_simp
      try (with_reducible rfl)
    try simp only [Act.put, List.setIfInBounds_toArray, List.set_cons_zero, List.set_cons_succ]
    refine wpAnyH_take (i := 6) (v := ?_) rfl (by kernel_rfl) (by kernel_rfl) (by kernel_rfl) (fun _ _ _ h => h) (Or.inl ⟨by kernel_rfl, ?_⟩) hH0 ?_
    rotate_left
    · intro w hSw
      try dsimp only at hSw
      go_simp
      try (with_reducible rfl)
    try simp only [Act.put, List.setIfInBounds_toArray, List.set_cons_zero, List.set_cons_succ]
    refine wpAnyH_take (i := 7) (v := ?_) rfl (by kernel_rfl) (by kernel_rfl) (by kernel_rfl) (fun _ _ _ h => h) (Or.inl ⟨by kernel_rfl, ?_⟩) hH0 ?_
    rotate_left
    · intro w hSw
      try dsimp only at hSw
      go_simp
      try (with_reducible rfl)
    try simp only [Act.put, List.setIfInBounds_toArray, List.set_cons_zero, List.set_cons_succ]
    refine wpAnyH_ready (rs := [8]) (by kernel_rfl) (by simp) ?_
    refine AllReadyH.cons rfl (fun K hK => ?_) AllReadyH.nil
    go_simp
    try simp only [v0, v1, v2, u2, u3]
    refine (read_step HD24.out E22.out).mono ?_
    rintro e w25 (⟨s25, rfl, H25, J25, E25⟩ | ⟨v2, s25, rfl, H25, J25, E25⟩)
    · dsimp only
      clear hK K
      go_wp2_with fail
      exact ⟨rfl, TPost.none E25.out ⟨rfl, H25.out, HU.out.trans (KD24.out.trans J25.out)⟩⟩
    unfold encI
    have K25 := Lib.hid (KD24.out.trans J25.out)
    clear HD24 KD24 E22 J25
    have T240 := HS.out _ K25.out
    refine hK.out _ _ T240 (fun hG240 => ?_)
    clear hK K
    try simp only [Act.put, List.setIfInBounds_toArray, List.set_cons_zero, List.set_cons_succ]
    clear hH0
    refine wpAnyH_ready (rs := [9]) (by kernel_rfl) (by simp) ?_
    refine AllReadyH.cons rfl (fun K hK => ?_) AllReadyH.nil
    go_simp
    try simp only [v0, v1, v2, u2, u3]
    refine (set_step H25.out E25.out).mono ?_
    rintro e w26 ⟨rfl, s26, H26, J26, E26⟩
    have K26 := Lib.hid (K25.out.trans J26.out)
    clear H25 K25 E25 J26
    have T241 := HS.out _ K26.out
    refine hK.out _ _ T241 (fun hG241 => ?_)
    clear hK K
    try simp only [Act.put, List.setIfInBounds_toArray, List.set_cons_zero, List.set_cons_succ]
    clear hG240
    refine wpAnyH_done (by kernel_rfl) ?_ _
    try simp only [Act.put, List.setIfInBounds_toArray, List.set_cons_zero, List.set_cons_succ, List.getElem_toArray, List.getElem_cons_succ, List.getElem_cons_zero]
    clear hG241
    go_wp2_with fail
    go_step3
    refine ⟨rfl, hJ.out _ _ ?_⟩
    go_wp2_with fail
    rw [Exit.noGoto_ret]
    go_ret
    exact TPost.some E26.out.symm ⟨rfl, H26.out, HU.out.trans K26.out⟩

end Go.Proofs.Ytpandnodeldbjaa
