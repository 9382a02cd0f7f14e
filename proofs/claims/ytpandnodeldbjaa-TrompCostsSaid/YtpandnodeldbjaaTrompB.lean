/-
  The document's tromp: Read and Write.
-/
import Derived.Test.YtpandnodeldbjaaTrompA
import Derived.Test.YtpandnodeldbjaaSteadyB
set_option linter.unusedVariables false
set_option linter.unusedSimpArgs false
namespace Go.Proofs.Ytpandnodeldbjaa
open Go.RowKit

set_option maxRecDepth 10000 in
set_option maxHeartbeats 400000 in
theorem rtrompW_any (k b lo n wr rd tp v : Int) (h B : Nat) (r : RS) (w : World) (H : RefIs w h B r) (hb0 : -1099511627776 ≤ b) (hb1 : b ≤ 1099511627776) (hl0 : -1099511627776 ≤ lo) (hl1 : lo ≤ 1099511627776) :
    Calls Try.prog 50 #[.pointer (some ⟨h, 0, none⟩), regV k b lo n wr rd tp, .int .i64 v] w (RPost (.tuple #[]) h B w ((rtrW b lo v).onR r).2) := by
  obtain ⟨x0, x1, x2, -⟩ := near b hb0 hb1
  obtain ⟨y0, y1, -, -⟩ := near lo hl0 hl1
  obtain ⟨v0, v1, v2, -⟩ := near2 b hb0 hb1
  have hU : Up w (w.alloc (.cells (regC k b lo n wr rd tp) 50)) := (Up.refl w).alloc _
  have hb := reg_box w k b lo n wr rd tp
  have hgs := H.c.hs
  have HT := Lib.hid (H.up hU)
  have HU := Lib.hid (TK.ofUp (g := h) (B := B) hU)
  have HB := Lib.hid (fun W => bit_any v W)
  have HS := Lib.hid (fun (w' : World) (k2 : TK h B (w.alloc (.cells (regC k b lo n wr rd tp) 50)) w') => reg_cells (k2.one hb (by omega) (.inr (by decide))))
  unfold regV
  unfold regC at *
  generalize hW : w.alloc (.cells #[.int .i64 k, .int .i64 b, .int .i64 lo, .int .i64 n, .int .i64 wr, .int .i64 rd, .int .i64 tp] 50) = W0 at *
  have HW := Lib.hid hW
  obtain ⟨R, hR⟩ : ∃ R, (rtrW b lo v).onR r = R := ⟨_, rfl⟩
  rw [hR]
  unfold rtrW at hR
  obtain ⟨u, hu⟩ : ∃ u, bitI v = u := ⟨_, rfl⟩
  rw [hu] at hR HB
  have HE := Lib.hid hR
  have K0 := Lib.hid (TK.refl h B W0)
  clear H hU hR hb hb0 hb1 hl0 hl1 hW hu
  go_enter Try.func50, Try.ntmps50
  go_wp2_with fail
  rw [HW.out]
  obtain ⟨c1, c2⟩ := HS.out _ K0.out
  go_wp2_with fail
  refine (HB.out _).mono ?_
  rintro e w1 ⟨rfl, rfl⟩
  go_wp2_with fail
  refine (rget_step HT.out HE.out).mono ?_
  rintro e w2 ⟨x, rfl, rfl, E1⟩
  rcases eq_onR E1 with ⟨rfl, E2⟩ | ⟨hx, E2⟩
  · go_wp2_with fail
    go_end0
    have HF := E2.out
    subst HF
    exact ⟨rfl, HT.out, HU.out⟩
  go_wp2_with fail
  refine (rwrite_step (k := fun _ => _) HT.out E2.out).mono ?_
  rintro e w3 ⟨rfl, s3, H3, K3, E3⟩
  clear c1 c2
  obtain ⟨c1, c2⟩ := HS.out _ K3.out
  go_wp2_with fail
  refine (rset_step H3.out E3.out).mono ?_
  rintro e w4 ⟨rfl, s4, H4, J4, E4⟩
  have K4 := Lib.hid (K3.out.trans J4.out)
  clear c1 c2
  obtain ⟨c1, c2⟩ := HS.out _ K4.out
  clear H3 K3 J4 E3 E1 E2 HE HT K0 hx
  go_wp2_with fail
  refine (rget_step H4.out E4.out).mono ?_
  rintro e w5 ⟨g, rfl, rfl, E5⟩
  go_wp2_with fail
  refine (rread_step H4.out E5.out).mono ?_
  rintro e w6 ⟨y, s6, rfl, H6, J6, E6⟩
  have K6 := Lib.hid (K4.out.trans J6.out)
  have ov := H6.out.ov
  have E7 := Lib.hid (show (if y = g ∧ (!s6.over) = true then _ else _ : Op Unit).onR s6 = R from E6.out)
  clear c1 c2 H4 K4 J6 E4 E5 E6
  obtain ⟨c1, c2⟩ := HS.out _ K6.out
  obtain ⟨o, ho⟩ : ∃ o, s6.over = o := ⟨_, rfl⟩
  rw [ho] at ov E7
  by_cases hy : y = g
  rotate_left
  · have E8 := Lib.hid (else_onR (fun h => hy h.1) E7.out)
    have hy2 : (y == g) = false := by rw [beq_eq_false_iff_ne]; exact hy
    clear E7 ho
    go_wp2_with fail
    go_end0
    have HF := E8.out
    subst HF
    exact ⟨rfl, H6.out, HU.out.trans K6.out⟩
  subst hy
  cases o
  rotate_left
  · have E8 := Lib.hid (else_onR (fun h => by simp at h) E7.out)
    clear E7 ho
    go_wp2_with fail
    go_end0
    have HF := E8.out
    subst HF
    exact ⟨rfl, H6.out, HU.out.trans K6.out⟩
  have E8 := Lib.hid (if_onR ⟨rfl, rfl⟩ E7.out)
  clear E7 ho
  go_wp2_with fail
  refine (rwrite_step (k := fun _ => _) H6.out E8.out).mono ?_
  rintro e w7 ⟨rfl, s7, H7, J7, E9⟩
  have K7 := Lib.hid (K6.out.trans J7.out)
  clear c1 c2 H6 K6 J7 E8 ov
  obtain ⟨c1, c2⟩ := HS.out _ K7.out
  go_wp2_with fail
  refine (rset_step H7.out E9.out).mono ?_
  rintro e w8 ⟨rfl, s8, H8, J8, E10⟩
  clear c1 c2
  go_wp2_with fail
  go_end0
  have HF := E10.out
  subst HF
  exact ⟨rfl, H8.out, HU.out.trans (K7.out.trans J8.out)⟩

set_option maxRecDepth 10000 in
set_option maxHeartbeats 1000000 in
theorem rtrompR_any (k b lo n wr rd tp : Int) (h B : Nat) (r : RS) (w : World) (H : RefIs w h B r) (hb0 : -1099511627776 ≤ b) (hb1 : b ≤ 1099511627776) (hl0 : -1099511627776 ≤ lo) (hl1 : lo ≤ 1099511627776) :
    Calls Try.prog 49 #[.pointer (some ⟨h, 0, none⟩), regV k b lo n wr rd tp] w (RPost (.int .i64 ((trR b lo).onR r).1) h B w ((trR b lo).onR r).2) := by
  obtain ⟨x0, x1, x2, -⟩ := near b hb0 hb1
  obtain ⟨-, -, y2, y3⟩ := near lo hl0 hl1
  obtain ⟨v0, v1, v2, -⟩ := near2 b hb0 hb1
  obtain ⟨-, -, u2, u3⟩ := near2 lo hl0 hl1
  have hU : Up w (w.alloc (.cells (regC k b lo n wr rd tp) 50)) := (Up.refl w).alloc _
  have hb := reg_box w k b lo n wr rd tp
  have hgs := H.c.hs
  have HT := Lib.hid (H.up hU)
  have HU := Lib.hid (TK.ofUp (g := h) (B := B) hU)
  have HS := Lib.hid (fun (w' : World) (k2 : TK h B (w.alloc (.cells (regC k b lo n wr rd tp) 50)) w') => reg_cells (k2.one hb (by omega) (.inr (by decide))))
  unfold regV
  unfold regC at *
  generalize hW : w.alloc (.cells #[.int .i64 k, .int .i64 b, .int .i64 lo, .int .i64 n, .int .i64 wr, .int .i64 rd, .int .i64 tp] 50) = W0 at *
  have HW := Lib.hid hW
  obtain ⟨R, hR⟩ : ∃ R, (trR b lo).onR r = R := ⟨_, rfl⟩
  rw [hR]
  unfold trR at hR
  have HE := Lib.hid hR
  have K0 := Lib.hid (TK.refl h B W0)
  clear H hU hR hb hb0 hb1 hl0 hl1 hW
  go_enter Try.func49, Try.ntmps49
  go_wp2_with fail
  try rw [HW.out]
  have HD1 := Lib.hid (HT.out.up (Up.refl _).drew)
  have KD1 := Lib.hid K0.out.drew
  clear HT K0
  refine wp_region_held_drew (S := fun w' => w'.cell? ⟨w.heap.size, 1, none⟩ = some (.int .i64 b) ∧ w'.cell? ⟨w.heap.size, 2, none⟩ = some (.int .i64 lo)) (by kernel_rfl) (HS.out _ KD1.out) (fun hH0 => ?_)
  refine wpAnyH_take (i := 0) (v := ?_) rfl (by kernel_rfl) (by kernel_rfl) (by kernel_rfl) (fun _ _ _ h => h) (Or.inl ⟨by kernel_rfl, ?_⟩) hH0 ?_
  rotate_left
  · intro w hSw
    try dsimp only at hSw
    go_simp
    try (with_reducible rfl)
  try simp only [Act.put, List.setIfInBounds_toArray, List.set_cons_zero, List.set_cons_succ]
  refine wpAnyH_take (i := 1) (v := ?_) rfl (by kernel_rfl) (by kernel_rfl) (by kernel_rfl) (fun _ _ _ h => h) (Or.inl ⟨by kernel_rfl, ?_⟩) hH0 ?_
  rotate_left
  · intro w hSw
    try dsimp only at hSw
    go_simp
    try (with_reducible rfl)
  try simp only [Act.put, List.setIfInBounds_toArray, List.set_cons_zero, List.set_cons_succ]
  refine wpAnyH_take (i := 2) (v := ?_) rfl (by kernel_rfl) (by kernel_rfl) (by kernel_rfl) (fun _ _ _ h => h) (Or.inl ⟨by kernel_rfl, ?_⟩) hH0 ?_
  rotate_left
  · intro w hSw
    try dsimp only at hSw
    go_simp
    try (with_reducible rfl)
  try simp only [Act.put, List.setIfInBounds_toArray, List.set_cons_zero, List.set_cons_succ]
  refine wpAnyH_take (i := 3) (v := ?_) rfl (by kernel_rfl) (by kernel_rfl) (by kernel_rfl) (fun _ _ _ h => h) (Or.inl ⟨by kernel_rfl, ?_⟩) hH0 ?_
  rotate_left
  · intro w hSw
    try dsimp only at hSw
    go_simp
    try (with_reducible rfl)
  try simp only [Act.put, List.setIfInBounds_toArray, List.set_cons_zero, List.set_cons_succ]
  refine wpAnyH_take (i := 5) (v := ?_) rfl (by kernel_rfl) (by kernel_rfl) (by kernel_rfl) (fun _ _ _ h => h) (Or.inl ⟨by kernel_rfl, ?_⟩) hH0 ?_
  rotate_left
  · intro w hSw
    try dsimp only at hSw
    go_simp
    try (with_reducible rfl)
  try simp only [Act.put, List.setIfInBounds_toArray, List.set_cons_zero, List.set_cons_succ]
  refine wpAnyH_take (i := 6) (v := ?_) rfl (by kernel_rfl) (by kernel_rfl) (by kernel_rfl) (fun _ _ _ h => h) (Or.inl ⟨by kernel_rfl, ?_⟩) hH0 ?_
  rotate_left
  · intro w hSw
    try dsimp only at hSw
    go_simp
    try (with_reducible rfl)
  try simp only [Act.put, List.setIfInBounds_toArray, List.set_cons_zero, List.set_cons_succ]
  refine wpAnyH_take (i := 7) (v := ?_) rfl (by kernel_rfl) (by kernel_rfl) (by kernel_rfl) (fun _ _ _ h => h) (Or.inl ⟨by kernel_rfl, ?_⟩) hH0 ?_
  rotate_left
  · intro w hSw
    try dsimp only at hSw
    go_simp
    try (with_reducible rfl)
  try simp only [Act.put, List.setIfInBounds_toArray, List.set_cons_zero, List.set_cons_succ]
  refine wpAnyH_take (i := 8) (v := ?_) rfl (by kernel_rfl) (by kernel_rfl) (by kernel_rfl) (fun _ _ _ h => h) (Or.inl ⟨by kernel_rfl, ?_⟩) hH0 ?_
  rotate_left
  · intro w hSw
    try dsimp only at hSw
    go_simp
    try (with_reducible rfl)
  try simp only [Act.put, List.setIfInBounds_toArray, List.set_cons_zero, List.set_cons_succ]
  refine wpAnyH_ready (rs := [4]) (by kernel_rfl) (by simp) ?_
  refine AllReadyH.cons rfl (fun K hK => ?_) AllReadyH.nil
  go_simp
  try simp only [v0, v1, v2, u2, u3]
  refine (rread_step HD1.out HE.out).mono ?_
  rintro e w2 ⟨x, s2, rfl, H2, J2, E2⟩
  have K2 := Lib.hid (KD1.out.trans J2.out)
  clear HD1 KD1 HE J2
  have T10 := HS.out _ K2.out
  refine hK.out _ _ T10 (fun hG10 => ?_)
  clear hK K
  try simp only [Act.put, List.setIfInBounds_toArray, List.set_cons_zero, List.set_cons_succ]
  clear hH0
  refine wpAnyH_ready (rs := [9]) (by kernel_rfl) (by simp) ?_
  refine AllReadyH.cons rfl (fun K hK => ?_) AllReadyH.nil
  go_simp
  try simp only [v0, v1, v2, u2, u3]
  refine (rget_step H2.out E2.out).mono ?_
  rintro e w3 ⟨y, rfl, rfl, E3⟩
  clear E2
  have T11 := HS.out _ K2.out
  refine hK.out _ _ T11 (fun hG11 => ?_)
  clear hK K
  try simp only [Act.put, List.setIfInBounds_toArray, List.set_cons_zero, List.set_cons_succ]
  clear hG10
  refine wpAnyH_take (i := 10) (v := ?_) rfl (by kernel_rfl) (by kernel_rfl) (by kernel_rfl) (fun _ _ _ h => h) (Or.inl ⟨by kernel_rfl, ?_⟩) hG11 ?_
  rotate_left
  · intro w hSw
    try dsimp only at hSw
    go_simp
    try (with_reducible rfl)
  try simp only [Act.put, List.setIfInBounds_toArray, List.set_cons_zero, List.set_cons_succ]
  refine wpAnyH_done (by kernel_rfl) ?_ _
  try simp only [Act.put, List.setIfInBounds_toArray, List.set_cons_zero, List.set_cons_succ, List.getElem_toArray, List.getElem_cons_succ, List.getElem_cons_zero]
  clear hG11
  rcases eq_onR E3 with ⟨rfl, E4⟩ | ⟨h4, E4⟩
  all_goals clear E3
  · obtain ⟨c1, c2⟩ := HS.out _ K2.out
    go_wp2_with fail
    refine (rget_step H2.out E4.out).mono ?_
    rintro e w5 ⟨z, rfl, rfl, E5⟩
    clear E4
    go_wp2_with fail
    go_ret
    have HE := E5.out
    subst HE
    exact ⟨rfl, H2.out, HU.out.trans K2.out⟩
  obtain ⟨c1, c2⟩ := HS.out _ K2.out
  go_wp2_with fail
  refine (rread_step H2.out E4.out).mono ?_
  rintro e w6 ⟨x, s6, rfl, H6, J6, E6⟩
  have K6 := Lib.hid (K2.out.trans J6.out)
  clear H2 K2 E4 J6
  clear c1 c2
  go_wp2_with fail
  try rw [HW.out]
  have HD7 := Lib.hid (H6.out.up (Up.refl _).drew)
  have KD7 := Lib.hid K6.out.drew
  clear H6 K6
  refine wp_region_held_drew (S := fun w' => w'.cell? ⟨w.heap.size, 1, none⟩ = some (.int .i64 b) ∧ w'.cell? ⟨w.heap.size, 2, none⟩ = some (.int .i64 lo)) (by kernel_rfl) (HS.out _ KD7.out) (fun hH0 => ?_)
  refine wpAnyH_take (i := 0) (v := ?_) rfl (by kernel_rfl) (by kernel_rfl) (by kernel_rfl) (fun _ _ _ h => h) (Or.inl ⟨by kernel_rfl, ?_⟩) hH0 ?_
  rotate_left
  · intro w hSw
    try dsimp only at hSw
    go_simp
    try (with_reducible rfl)
  try simp only [Act.put, List.setIfInBounds_toArray, List.set_cons_zero, List.set_cons_succ]
  refine wpAnyH_take (i := 1) (v := ?_) rfl (by kernel_rfl) (by kernel_rfl) (by kernel_rfl) (fun _ _ _ h => h) (Or.inl ⟨by kernel_rfl, ?_⟩) hH0 ?_
  rotate_left
  · intro w hSw
    try dsimp only at hSw
    go_simp
    try (with_reducible rfl)
  try simp only [Act.put, List.setIfInBounds_toArray, List.set_cons_zero, List.set_cons_succ]
  refine wpAnyH_take (i := 2) (v := ?_) rfl (by kernel_rfl) (by kernel_rfl) (by kernel_rfl) (fun _ _ _ h => h) (Or.inl ⟨by kernel_rfl, ?_⟩) hH0 ?_
  rotate_left
  · intro w hSw
    try dsimp only at hSw
    go_simp
    try (with_reducible rfl)
  try simp only [Act.put, List.setIfInBounds_toArray, List.set_cons_zero, List.set_cons_succ]
  refine wpAnyH_take (i := 3) (v := ?_) rfl (by kernel_rfl) (by kernel_rfl) (by kernel_rfl) (fun _ _ _ h => h) (Or.inl ⟨by kernel_rfl, ?_⟩) hH0 ?_
  rotate_left
  · intro w hSw
    try dsimp only at hSw
    go_simp
    try (with_reducible rfl)
  try simp only [Act.put, List.setIfInBounds_toArray, List.set_cons_zero, List.set_cons_succ]
  refine wpAnyH_take (i := 5) (v := ?_) rfl (by kernel_rfl) (by kernel_rfl) (by kernel_rfl) (fun _ _ _ h => h) (Or.inl ⟨by kernel_rfl, ?_⟩) hH0 ?_
  rotate_left
  · intro w hSw
    try dsimp only at hSw
    go_simp
    try (with_reducible rfl)
  try simp only [Act.put, List.setIfInBounds_toArray, List.set_cons_zero, List.set_cons_succ]
  refine wpAnyH_take (i := 6) (v := ?_) rfl (by kernel_rfl) (by kernel_rfl) (by kernel_rfl) (fun _ _ _ h => h) (Or.inl ⟨by kernel_rfl, ?_⟩) hH0 ?_
  rotate_left
  · intro w hSw
    try dsimp only at hSw
    go_simp
    try (with_reducible rfl)
  try simp only [Act.put, List.setIfInBounds_toArray, List.set_cons_zero, List.set_cons_succ]
  refine wpAnyH_take (i := 7) (v := ?_) rfl (by kernel_rfl) (by kernel_rfl) (by kernel_rfl) (fun _ _ _ h => h) (Or.inl ⟨by kernel_rfl, ?_⟩) hH0 ?_
  rotate_left
  · intro w hSw
    try dsimp only at hSw
    go_simp
    try (with_reducible rfl)
  try simp only [Act.put, List.setIfInBounds_toArray, List.set_cons_zero, List.set_cons_succ]
  refine wpAnyH_take (i := 8) (v := ?_) rfl (by kernel_rfl) (by kernel_rfl) (by kernel_rfl) (fun _ _ _ h => h) (Or.inl ⟨by kernel_rfl, ?_⟩) hH0 ?_
  rotate_left
  · intro w hSw
    try dsimp only at hSw
    go_simp
    try (with_reducible rfl)
  try simp only [Act.put, List.setIfInBounds_toArray, List.set_cons_zero, List.set_cons_succ]
  refine wpAnyH_ready (rs := [4]) (by kernel_rfl) (by simp) ?_
  refine AllReadyH.cons rfl (fun K hK => ?_) AllReadyH.nil
  go_simp
  try simp only [v0, v1, v2, u2, u3]
  refine (rread_step HD7.out E6.out).mono ?_
  rintro e w8 ⟨y, s8, rfl, H8, J8, E8⟩
  have K8 := Lib.hid (KD7.out.trans J8.out)
  clear HD7 KD7 E6 J8
  have T70 := HS.out _ K8.out
  refine hK.out _ _ T70 (fun hG70 => ?_)
  clear hK K
  try simp only [Act.put, List.setIfInBounds_toArray, List.set_cons_zero, List.set_cons_succ]
  clear hH0
  refine wpAnyH_ready (rs := [9]) (by kernel_rfl) (by simp) ?_
  refine AllReadyH.cons rfl (fun K hK => ?_) AllReadyH.nil
  go_simp
  try simp only [v0, v1, v2, u2, u3]
  refine (rget_step H8.out E8.out).mono ?_
  rintro e w9 ⟨z, rfl, rfl, E9⟩
  clear E8
  have T71 := HS.out _ K8.out
  refine hK.out _ _ T71 (fun hG71 => ?_)
  clear hK K
  try simp only [Act.put, List.setIfInBounds_toArray, List.set_cons_zero, List.set_cons_succ]
  clear hG70
  refine wpAnyH_take (i := 10) (v := ?_) rfl (by kernel_rfl) (by kernel_rfl) (by kernel_rfl) (fun _ _ _ h => h) (Or.inl ⟨by kernel_rfl, ?_⟩) hG71 ?_
  rotate_left
  · intro w hSw
    try dsimp only at hSw
    go_simp
    try (with_reducible rfl)
  try simp only [Act.put, List.setIfInBounds_toArray, List.set_cons_zero, List.set_cons_succ]
  refine wpAnyH_done (by kernel_rfl) ?_ _
  try simp only [Act.put, List.setIfInBounds_toArray, List.set_cons_zero, List.set_cons_succ, List.getElem_toArray, List.getElem_cons_succ, List.getElem_cons_zero]
  clear hG71
  have E10 := Lib.hid (show (trTurn b lo y z (trEnd b lo x)).onR s8 = R from E9.out)
  clear E9
  unfold trTurn at E10
  rcases eq_onR E10 with ⟨rfl, E11⟩ | ⟨h11, E11⟩
  all_goals clear E10
  rotate_left
  obtain ⟨c1, c2⟩ := HS.out _ K8.out
  go_wp2_with fail
  refine (rget_step H8.out E11.out).mono ?_
  rintro e w12 ⟨u, rfl, rfl, E12⟩
  clear E11
  go_wp2_with fail
  refine (rwrite_step (k := fun _ => _) H8.out E12.out).mono ?_
  rintro e w13 ⟨rfl, s13, H13, J13, E13⟩
  have K13 := Lib.hid (K8.out.trans J13.out)
  clear H8 K8 E12 J13
  clear c1 c2
  obtain ⟨c1, c2⟩ := HS.out _ K13.out
  go_wp2_with fail
  refine (rset_step H13.out E13.out).mono ?_
  rintro e w14 ⟨rfl, s14, H14, J14, E14⟩
  have K14 := Lib.hid (K13.out.trans J14.out)
  clear H13 K13 E13 J14
  clear c1 c2
  have HZ := H14
  have KZ := K14
  have EZ := E14
  clear H14 K14 E14
  rotate_left
  have HZ := H8
  have KZ := K8
  have EZ := E11
  clear H8 K8 E11
  all_goals
    have E15 := Lib.hid (show (trEnd b lo x).onR _ = R from EZ.out)
    clear EZ
    unfold trEnd at E15
    go_wp2_with fail
    try rw [HW.out]
    have HD16 := Lib.hid (HZ.out.up (Up.refl _).drew)
    have KD16 := Lib.hid KZ.out.drew
    clear HZ KZ
    refine wp_region_held_drew (S := fun w' => w'.cell? ⟨w.heap.size, 1, none⟩ = some (.int .i64 b) ∧ w'.cell? ⟨w.heap.size, 2, none⟩ = some (.int .i64 lo)) (by kernel_rfl) (HS.out _ KD16.out) (fun hH0 => ?_)
    refine wpAnyH_take (i := 0) (v := ?_) rfl (by kernel_rfl) (by kernel_rfl) (by kernel_rfl) (fun _ _ _ h => h) (Or.inl ⟨by kernel_rfl, ?_⟩) hH0 ?_
    rotate_left
    · intro w hSw
      try dsimp only at hSw
      go_simp
      try (with_reducible rfl)
    try simp only [Act.put, List.setIfInBounds_toArray, List.set_cons_zero, List.set_cons_succ]
    refine wpAnyH_take (i := 1) (v := ?_) rfl (by kernel_rfl) (by kernel_rfl) (by kernel_rfl) (fun _ _ _ h => h) (Or.inl ⟨by kernel_rfl, ?_⟩) hH0 ?_
    rotate_left
    · intro w hSw
      try dsimp only at hSw
      go_simp
      try (with_reducible rfl)
    try simp only [Act.put, List.setIfInBounds_toArray, List.set_cons_zero, List.set_cons_succ]
    refine wpAnyH_take (i := 2) (v := ?_) rfl (by kernel_rfl) (by kernel_rfl) (by kernel_rfl) (fun _ _ _ h => h) (Or.inl ⟨by kernel_rfl, ?_⟩) hH0 ?_
    rotate_left
    · intro w hSw
      try dsimp only at hSw
      go_simp
      try (with_reducible rfl)
    try simp only [Act.put, List.setIfInBounds_toArray, List.set_cons_zero, List.set_cons_succ]
    refine wpAnyH_take (i := 3) (v := ?_) rfl (by kernel_rfl) (by kernel_rfl) (by kernel_rfl) (fun _ _ _ h => h) (Or.inl ⟨by kernel_rfl, ?_⟩) hH0 ?_
    rotate_left
    · intro w hSw
      try dsimp only at hSw
      go_simp
      try (with_reducible rfl)
    try simp only [Act.put, List.setIfInBounds_toArray, List.set_cons_zero, List.set_cons_succ]
    refine wpAnyH_take (i := 4) (v := ?_) rfl (by kernel_rfl) (by kernel_rfl) (by kernel_rfl) (fun _ _ _ h => h) (Or.inl ⟨by kernel_rfl, ?_⟩) hH0 ?_
    rotate_left
    · intro w hSw
      try dsimp only at hSw
      go_simp
      try (with_reducible rfl)
    try simp only [Act.put, List.setIfInBounds_toArray, List.set_cons_zero, List.set_cons_succ]
    refine wpAnyH_take (i := 5) (v := ?_) rfl (by kernel_rfl) (by kernel_rfl) (by kernel_rfl) (fun _ _ _ h => h) (Or.inl ⟨by kernel_rfl, ?_⟩) hH0 ?_
    rotate_left
    · intro w hSw
      try dsimp only at hSw
      go_simp
      try (with_reducible rfl)
    try simp only [Act.put, List.setIfInBounds_toArray, List.set_cons_zero, List.set_cons_succ]
    refine wpAnyH_take (i := 6) (v := ?_) rfl (by kernel_rfl) (by kernel_rfl) (by kernel_rfl) (fun _ _ _ h => h) (Or.inl ⟨by kernel_rfl, ?_⟩) hH0 ?_
    rotate_left
    · intro w hSw
      try dsimp only at hSw
      go_simp
      try (with_reducible rfl)
    try simp only [Act.put, List.setIfInBounds_toArray, List.set_cons_zero, List.set_cons_succ]
    refine wpAnyH_ready (rs := [7]) (by kernel_rfl) (by simp) ?_
    refine AllReadyH.cons rfl (fun K hK => ?_) AllReadyH.nil
    go_simp
    try simp only [v0, v1, v2, u2, u3]
    refine (rread_step HD16.out E15.out).mono ?_
    rintro e w17 ⟨v, s17, rfl, H17, J17, E17⟩
    have K17 := Lib.hid (KD16.out.trans J17.out)
    clear HD16 KD16 E15 J17
    have T160 := HS.out _ K17.out
    refine hK.out _ _ T160 (fun hG160 => ?_)
    clear hK K
    try simp only [Act.put, List.setIfInBounds_toArray, List.set_cons_zero, List.set_cons_succ]
    clear hH0
    refine wpAnyH_ready (rs := [8]) (by kernel_rfl) (by simp) ?_
    refine AllReadyH.cons rfl (fun K hK => ?_) AllReadyH.nil
    go_simp
    try simp only [v0, v1, v2, u2, u3]
    refine (rset_step H17.out E17.out).mono ?_
    rintro e w18 ⟨rfl, s18, H18, J18, E18⟩
    have K18 := Lib.hid (K17.out.trans J18.out)
    clear H17 K17 E17 J18
    have T161 := HS.out _ K18.out
    refine hK.out _ _ T161 (fun hG161 => ?_)
    clear hK K
    try simp only [Act.put, List.setIfInBounds_toArray, List.set_cons_zero, List.set_cons_succ]
    clear hG160
    refine wpAnyH_done (by kernel_rfl) ?_ _
    try simp only [Act.put, List.setIfInBounds_toArray, List.set_cons_zero, List.set_cons_succ, List.getElem_toArray, List.getElem_cons_succ, List.getElem_cons_zero]
    clear hG161
    go_wp2_with fail
    try rw [HW.out]
    have HD19 := Lib.hid (H18.out.up (Up.refl _).drew)
    have KD19 := Lib.hid K18.out.drew
    clear H18 K18
    refine wp_region_held_drew (S := fun w' => w'.cell? ⟨w.heap.size, 1, none⟩ = some (.int .i64 b) ∧ w'.cell? ⟨w.heap.size, 2, none⟩ = some (.int .i64 lo)) (by kernel_rfl) (HS.out _ KD19.out) (fun hH0 => ?_)
    refine wpAnyH_take (i := 0) (v := ?_) rfl (by kernel_rfl) (by kernel_rfl) (by kernel_rfl) (fun _ _ _ h => h) (Or.inl ⟨by kernel_rfl, ?_⟩) hH0 ?_
    rotate_left
    · intro w hSw
      try dsimp only at hSw
      go_simp
      try (with_reducible rfl)
    try simp only [Act.put, List.setIfInBounds_toArray, List.set_cons_zero, List.set_cons_succ]
    refine wpAnyH_take (i := 1) (v := ?_) rfl (by kernel_rfl) (by kernel_rfl) (by kernel_rfl) (fun _ _ _ h => h) (Or.inl ⟨by kernel_rfl, ?_⟩) hH0 ?_
    rotate_left
    · intro w hSw
      try dsimp only at hSw
      go_simp
      try (with_reducible rfl)
    try simp only [Act.put, List.setIfInBounds_toArray, List.set_cons_zero, List.set_cons_succ]
    refine wpAnyH_take (i := 2) (v := ?_) rfl (by kernel_rfl) (by kernel_rfl) (by kernel_rfl) (fun _ _ _ h => h) (Or.inl ⟨by kernel_rfl, ?_⟩) hH0 ?_
    rotate_left
    · intro w hSw
      try dsimp only at hSw
      go_simp
      try (with_reducible rfl)
    try simp only [Act.put, List.setIfInBounds_toArray, List.set_cons_zero, List.set_cons_succ]
    refine wpAnyH_take (i := 3) (v := ?_) rfl (by kernel_rfl) (by kernel_rfl) (by kernel_rfl) (fun _ _ _ h => h) (Or.inl ⟨by kernel_rfl, ?_⟩) hH0 ?_
    rotate_left
    · intro w hSw
      try dsimp only at hSw
      go_simp
      try (with_reducible rfl)
    try simp only [Act.put, List.setIfInBounds_toArray, List.set_cons_zero, List.set_cons_succ]
    refine wpAnyH_take (i := 5) (v := ?_) rfl (by kernel_rfl) (by kernel_rfl) (by kernel_rfl) (fun _ _ _ h => h) (Or.inl ⟨by kernel_rfl, ?_⟩) hH0 ?_
    rotate_left
    · intro w hSw
      try dsimp only at hSw
      go_simp
      try (with_reducible rfl)
    try simp only [Act.put, List.setIfInBounds_toArray, List.set_cons_zero, List.set_cons_succ]
    refine wpAnyH_take (i := 6) (v := ?_) rfl (by kernel_rfl) (by kernel_rfl) (by kernel_rfl) (fun _ _ _ h => h) (Or.inl ⟨by kernel_rfl, ?_⟩) hH0 ?_
    rotate_left
    · intro w hSw
      try dsimp only at hSw
      go_simp
      try (with_reducible rfl)
    try simp only [Act.put, List.setIfInBounds_toArray, List.set_cons_zero, List.set_cons_succ]
    refine wpAnyH_take (i := 7) (v := ?_) rfl (by kernel_rfl) (by kernel_rfl) (by kernel_rfl) (fun _ _ _ h => h) (Or.inl ⟨by kernel_rfl, ?_⟩) hH0 ?_
    rotate_left
    · intro w hSw
      try dsimp only at hSw
      go_simp
      try (with_reducible rfl)
    try simp only [Act.put, List.setIfInBounds_toArray, List.set_cons_zero, List.set_cons_succ]
    refine wpAnyH_take (i := 8) (v := ?_) rfl (by kernel_rfl) (by kernel_rfl) (by kernel_rfl) (fun _ _ _ h => h) (Or.inl ⟨by kernel_rfl, ?_⟩) hH0 ?_
    rotate_left
    · intro w hSw
      try dsimp only at hSw
      go_simp
      try (with_reducible rfl)
    try simp only [Act.put, List.setIfInBounds_toArray, List.set_cons_zero, List.set_cons_succ]
    refine wpAnyH_ready (rs := [4]) (by kernel_rfl) (by simp) ?_
    refine AllReadyH.cons rfl (fun K hK => ?_) AllReadyH.nil
    go_simp
    try simp only [v0, v1, v2, u2, u3]
    refine (rread_step HD19.out E18.out).mono ?_
    rintro e w20 ⟨y2, s20, rfl, H20, J20, E20⟩
    have K20 := Lib.hid (KD19.out.trans J20.out)
    clear HD19 KD19 E18 J20
    have T190 := HS.out _ K20.out
    refine hK.out _ _ T190 (fun hG190 => ?_)
    clear hK K
    try simp only [Act.put, List.setIfInBounds_toArray, List.set_cons_zero, List.set_cons_succ]
    clear hH0
    refine wpAnyH_ready (rs := [9]) (by kernel_rfl) (by simp) ?_
    refine AllReadyH.cons rfl (fun K hK => ?_) AllReadyH.nil
    go_simp
    try simp only [v0, v1, v2, u2, u3]
    refine (rget_step H20.out E20.out).mono ?_
    rintro e w21 ⟨z2, rfl, rfl, E21⟩
    clear E20
    have T191 := HS.out _ K20.out
    refine hK.out _ _ T191 (fun hG191 => ?_)
    clear hK K
    try simp only [Act.put, List.setIfInBounds_toArray, List.set_cons_zero, List.set_cons_succ]
    clear hG190
    refine wpAnyH_take (i := 10) (v := ?_) rfl (by kernel_rfl) (by kernel_rfl) (by kernel_rfl) (fun _ _ _ h => h) (Or.inl ⟨by kernel_rfl, ?_⟩) hG191 ?_
    rotate_left
    · intro w hSw
      try dsimp only at hSw
      go_simp
      try (with_reducible rfl)
    try simp only [Act.put, List.setIfInBounds_toArray, List.set_cons_zero, List.set_cons_succ]
    refine wpAnyH_done (by kernel_rfl) ?_ _
    try simp only [Act.put, List.setIfInBounds_toArray, List.set_cons_zero, List.set_cons_succ, List.getElem_toArray, List.getElem_cons_succ, List.getElem_cons_zero]
    clear hG191
    rcases eq_onR E21 with ⟨rfl, E22⟩ | ⟨h22, E22⟩
    all_goals clear E21
    · obtain ⟨c1, c2⟩ := HS.out _ K20.out
      go_wp2_with fail
      refine (rget_step H20.out E22.out).mono ?_
      rintro e w23 ⟨z, rfl, rfl, E23⟩
      clear E22
      go_wp2_with fail
      go_ret
      have HE := E23.out
      subst HE
      exact ⟨rfl, H20.out, HU.out.trans K20.out⟩
    go_wp2_with fail
    try rw [HW.out]
    have HD24 := Lib.hid (H20.out.up (Up.refl _).drew)
    have KD24 := Lib.hid K20.out.drew
    clear H20 K20
    refine wp_region_held_drew (S := fun w' => w'.cell? ⟨w.heap.size, 1, none⟩ = some (.int .i64 b) ∧ w'.cell? ⟨w.heap.size, 2, none⟩ = some (.int .i64 lo)) (by kernel_rfl) (HS.out _ KD24.out) (fun hH0 => ?_)
    refine wpAnyH_take (i := 0) (v := ?_) rfl (by kernel_rfl) (by kernel_rfl) (by kernel_rfl) (fun _ _ _ h => h) (Or.inl ⟨by kernel_rfl, ?_⟩) hH0 ?_
    rotate_left
    · intro w hSw
      try dsimp only at hSw
      go_simp
      try (with_reducible rfl)
    try simp only [Act.put, List.setIfInBounds_toArray, List.set_cons_zero, List.set_cons_succ]
    refine wpAnyH_take (i := 1) (v := ?_) rfl (by kernel_rfl) (by kernel_rfl) (by kernel_rfl) (fun _ _ _ h => h) (Or.inl ⟨by kernel_rfl, ?_⟩) hH0 ?_
    rotate_left
    · intro w hSw
      try dsimp only at hSw
      go_simp
      try (with_reducible rfl)
    try simp only [Act.put, List.setIfInBounds_toArray, List.set_cons_zero, List.set_cons_succ]
    refine wpAnyH_take (i := 2) (v := ?_) rfl (by kernel_rfl) (by kernel_rfl) (by kernel_rfl) (fun _ _ _ h => h) (Or.inl ⟨by kernel_rfl, ?_⟩) hH0 ?_
    rotate_left
    · intro w hSw
      try dsimp only at hSw
      go_simp
      try (with_reducible rfl)
    try simp only [Act.put, List.setIfInBounds_toArray, List.set_cons_zero, List.set_cons_succ]
    refine wpAnyH_take (i := 3) (v := ?_) rfl (by kernel_rfl) (by kernel_rfl) (by kernel_rfl) (fun _ _ _ h => h) (Or.inl ⟨by kernel_rfl, ?_⟩) hH0 ?_
    rotate_left
    · intro w hSw
      try dsimp only at hSw
      go_simp
      try (with_reducible rfl)
    try simp only [Act.put, List.setIfInBounds_toArray, List.set_cons_zero, List.set_cons_succ]
    refine wpAnyH_take (i := 4) (v := ?_) rfl (by kernel_rfl) (by kernel_rfl) (by kernel_rfl) (fun _ _ _ h => h) (Or.inl ⟨by kernel_rfl, ?_⟩) hH0 ?_
    rotate_left
    · intro w hSw
      try dsimp only at hSw
      go_simp
      try (with_reducible rfl)
    try simp only [Act.put, List.setIfInBounds_toArray, List.set_cons_zero, List.set_cons_succ]
    refine wpAnyH_take (i := 5) (v := ?_) rfl (by kernel_rfl) (by kernel_rfl) (by kernel_rfl) (fun _ _ _ h => h) (Or.inl ⟨by kernel_rfl, ?_⟩) hH0 ?_
    rotate_left
    · intro w hSw
      try dsimp only at hSw
      go_simp
      try (with_reducible rfl)
    try simp only [Act.put, List.setIfInBounds_toArray, List.set_cons_zero, List.set_cons_succ]
    refine wpAnyH_take (i := 6) (v := ?_) rfl (by kernel_rfl) (by kernel_rfl) (by kernel_rfl) (fun _ _ _ h => h) (Or.inl ⟨by kernel_rfl, ?_⟩) hH0 ?_
    rotate_left
    · intro w hSw
      try dsimp only at hSw
      go_simp
      try (with_reducible rfl)
    try simp only [Act.put, List.setIfInBounds_toArray, List.set_cons_zero, List.set_cons_succ]
    refine wpAnyH_ready (rs := [7]) (by kernel_rfl) (by simp) ?_
    refine AllReadyH.cons rfl (fun K hK => ?_) AllReadyH.nil
    go_simp
    try simp only [v0, v1, v2, u2, u3]
    refine (rread_step HD24.out E22.out).mono ?_
    rintro e w25 ⟨v2, s25, rfl, H25, J25, E25⟩
    have K25 := Lib.hid (KD24.out.trans J25.out)
    clear HD24 KD24 E22 J25
    have T240 := HS.out _ K25.out
    refine hK.out _ _ T240 (fun hG240 => ?_)
    clear hK K
    try simp only [Act.put, List.setIfInBounds_toArray, List.set_cons_zero, List.set_cons_succ]
    clear hH0
    refine wpAnyH_ready (rs := [8]) (by kernel_rfl) (by simp) ?_
    refine AllReadyH.cons rfl (fun K hK => ?_) AllReadyH.nil
    go_simp
    try simp only [v0, v1, v2, u2, u3]
    refine (rset_step H25.out E25.out).mono ?_
    rintro e w26 ⟨rfl, s26, H26, J26, E26⟩
    have K26 := Lib.hid (K25.out.trans J26.out)
    clear H25 K25 E25 J26
    have T241 := HS.out _ K26.out
    refine hK.out _ _ T241 (fun hG241 => ?_)
    clear hK K
    try simp only [Act.put, List.setIfInBounds_toArray, List.set_cons_zero, List.set_cons_succ]
    clear hG240
    refine wpAnyH_done (by kernel_rfl) ?_ _
    try simp only [Act.put, List.setIfInBounds_toArray, List.set_cons_zero, List.set_cons_succ, List.getElem_toArray, List.getElem_cons_succ, List.getElem_cons_zero]
    clear hG241
    go_wp2_with fail
    go_ret
    have HE := E26.out
    subst HE
    exact ⟨rfl, H26.out, HU.out.trans K26.out⟩

end Go.Proofs.Ytpandnodeldbjaa
