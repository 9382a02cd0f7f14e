/-
  Package bench: the end of a thread's access.
-/
import Derived.Test.YtedkgamecdmjdaaBenC
set_option linter.unusedVariables false
set_option linter.unusedSimpArgs false
namespace Go.Proofs.Ytedkgamecdmjdaa
open Go.RowKit

set_option maxRecDepth 10000 in
set_option maxHeartbeats 4000000 in
theorem bend_any {w0 w : World} {b g h c1 : Nat} {f : Value} {l : List SD} {s : TB} {u : BS} {N : Nat} {vm va vl : Value} {X : Nat → Prop} (H : Ben w0 w b g h c1 f l s u N vm va vl X) (hN : N ≤ 1000) (mk : Int → CS) (ha : s.ans.length ≤ 1000000) (hm : s.ms ≤ 1000000) :
    Calls Try.prog 19 #[.pointer (some ⟨b, 0, none⟩), .int .i64 0] w fun e w' => e = .returned (.tuple #[]) ∧ ∃ vm' va' X', Ben w0 w' b g h c1 f l { s with ans := s.ans ++ [(u.endA mk 0 0).1], ms := s.ms + 1 } (u.endA mk 0 0).2.2 N vm' va' vl X' := by
  have HH := Lib.hid (H.grow (Up.refl w).drew)
  have HD := Lib.hid (draw_any b s.acc.1 s.acc.2.1 s.acc.2.2 w.drew (HH.out.cb.cell 3 (by decide)))
  have HB := Lib.hid (fun (W : World) (hU : Up w.drew W) => endM_any l w0.heap.size h N u X 0 0 W (by decide) (by decide) (HH.out.grow hU).bk hN mk)
  generalize u.endA mk 0 0 = r at *
  obtain ⟨r1, r2, r3⟩ := r
  dsimp only at HB ⊢
  have b1 : w.cell? ⟨b, 1, none⟩ = some (.slice (some ⟨g, 0, none⟩) 1 c1) := H.cb.cell 1 (by decide)
  have hS : w.drew.cell? ⟨b, 0, none⟩ = some (.pointer (some ⟨h, 0, none⟩)) ∧ w.drew.cell? ⟨g, 4, none⟩ = some (.int .i64 s.acc.1) ∧ w.drew.cell? ⟨g, 5, none⟩ = some (.int .i64 s.acc.2.1) ∧ w.drew.cell? ⟨g, 6, none⟩ = some (.int .i64 s.acc.2.2) :=
    ⟨HH.out.cb.cell 0 (by decide), HH.out.cg.cell 4 (by decide), HH.out.cg.cell 5 (by decide), HH.out.cg.cell 6 (by decide)⟩
  have HA := Lib.hid ha
  have HM := Lib.hid hm
  clear H hN ha hm
  go_enter Try.func19, Try.ntmps19
  go_wp2_with fail
  clear b1
  refine wp_region_held_drew (S := fun w' => w'.cell? ⟨b, 0, none⟩ = some (.pointer (some ⟨h, 0, none⟩)) ∧ w'.cell? ⟨g, 4, none⟩ = some (.int .i64 s.acc.1) ∧ w'.cell? ⟨g, 5, none⟩ = some (.int .i64 s.acc.2.1) ∧ w'.cell? ⟨g, 6, none⟩ = some (.int .i64 s.acc.2.2)) (by kernel_rfl) hS (fun hS0 => ?_)
  clear hS
  refine wpAnyH_take (i := 0) (v := ?_) rfl (by kernel_rfl) (by kernel_rfl) (by kernel_rfl) (fun _ _ _ h => h) (Or.inl ⟨by kernel_rfl, ?_⟩) hS0 ?_
  rotate_left
  · intro w hSw
    try dsimp only at hSw
    go_simp
    try (with_reducible rfl)
  try simp only [Act.put, List.setIfInBounds_toArray, List.set_cons_zero, List.set_cons_succ]
  refine wpAnyH_take (i := 1) (v := ?_) rfl (by kernel_rfl) (by kernel_rfl) (by kernel_rfl) (fun _ _ _ h => h) (Or.inl ⟨by kernel_rfl, ?_⟩) hS0 ?_
  rotate_left
  · intro w hSw
    try dsimp only at hSw
    go_simp
    try (with_reducible rfl)
  try simp only [Act.put, List.setIfInBounds_toArray, List.set_cons_zero, List.set_cons_succ]
  refine wpAnyH_take (i := 2) (v := ?_) rfl (by kernel_rfl) (by kernel_rfl) (by kernel_rfl) (fun _ _ _ h => h) (Or.inl ⟨by kernel_rfl, ?_⟩) hS0 ?_
  rotate_left
  · intro w hSw
    try dsimp only at hSw
    go_simp
    try (with_reducible rfl)
  try simp only [Act.put, List.setIfInBounds_toArray, List.set_cons_zero, List.set_cons_succ]
  refine wpAnyH_take (i := 3) (v := ?_) rfl (by kernel_rfl) (by kernel_rfl) (by kernel_rfl) (fun _ _ _ h => h) (Or.inl ⟨by kernel_rfl, ?_⟩) hS0 ?_
  rotate_left
  · intro w hSw
    try dsimp only at hSw
    go_simp
    try (with_reducible rfl)
  try simp only [Act.put, List.setIfInBounds_toArray, List.set_cons_zero, List.set_cons_succ]
  refine wpAnyH_take (i := 4) (v := ?_) rfl (by kernel_rfl) (by kernel_rfl) (by kernel_rfl) (fun _ _ _ h => h) (Or.inl ⟨by kernel_rfl, ?_⟩) hS0 ?_
  rotate_left
  · intro w hSw
    try dsimp only at hSw
    go_simp
    try (with_reducible rfl)
  try simp only [Act.put, List.setIfInBounds_toArray, List.set_cons_zero, List.set_cons_succ]
  refine wpAnyH_take (i := 5) (v := ?_) rfl (by kernel_rfl) (by kernel_rfl) (by kernel_rfl) (fun _ _ _ h => h) (Or.inl ⟨by kernel_rfl, ?_⟩) hS0 ?_
  rotate_left
  · intro w hSw
    try dsimp only at hSw
    go_simp
    try (with_reducible rfl)
  try simp only [Act.put, List.setIfInBounds_toArray, List.set_cons_zero, List.set_cons_succ]
  refine wpAnyH_take (i := 6) (v := ?_) rfl (by kernel_rfl) (by kernel_rfl) (by kernel_rfl) (fun _ _ _ h => h) (Or.inl ⟨by kernel_rfl, ?_⟩) hS0 ?_
  rotate_left
  · intro w hSw
    try dsimp only at hSw
    go_simp
    try (with_reducible rfl)
  try simp only [Act.put, List.setIfInBounds_toArray, List.set_cons_zero, List.set_cons_succ]
  refine wpAnyH_take (i := 7) (v := ?_) rfl (by kernel_rfl) (by kernel_rfl) (by kernel_rfl) (fun _ _ _ h => h) (Or.inl ⟨by kernel_rfl, ?_⟩) hS0 ?_
  rotate_left
  · intro w hSw
    try dsimp only at hSw
    go_simp
    try (with_reducible rfl)
  try simp only [Act.put, List.setIfInBounds_toArray, List.set_cons_zero, List.set_cons_succ]
  refine wpAnyH_take (i := 8) (v := ?_) rfl (by kernel_rfl) (by kernel_rfl) (by kernel_rfl) (fun _ _ _ h => h) (Or.inl ⟨by kernel_rfl, ?_⟩) hS0 ?_
  rotate_left
  · intro w hSw
    try dsimp only at hSw
    go_simp
    try (with_reducible rfl)
  try simp only [Act.put, List.setIfInBounds_toArray, List.set_cons_zero, List.set_cons_succ]
  refine wpAnyH_take (i := 9) (v := ?_) rfl (by kernel_rfl) (by kernel_rfl) (by kernel_rfl) (fun _ _ _ h => h) (Or.inl ⟨by kernel_rfl, ?_⟩) hS0 ?_
  rotate_left
  · intro w hSw
    try dsimp only at hSw
    go_simp
    try (with_reducible rfl)
  try simp only [Act.put, List.setIfInBounds_toArray, List.set_cons_zero, List.set_cons_succ]
  refine wpAnyH_ready (rs := [10]) (by kernel_rfl) (by simp) ?_
  refine AllReadyH.cons rfl (fun K hK => ?_) AllReadyH.nil
  go_simp
  refine HD.out.mono ?_
  rintro e w1 ⟨rfl, hU1⟩
  have H1 := Lib.hid (HH.out.grow hU1)
  have HB1 := Lib.hid (HB.out w1 hU1)
  have hS1 : w1.cell? ⟨b, 0, none⟩ = some (.pointer (some ⟨h, 0, none⟩)) ∧ w1.cell? ⟨g, 4, none⟩ = some (.int .i64 s.acc.1) ∧ w1.cell? ⟨g, 5, none⟩ = some (.int .i64 s.acc.2.1) ∧ w1.cell? ⟨g, 6, none⟩ = some (.int .i64 s.acc.2.2) :=
    ⟨H1.out.cb.cell 0 (by decide), H1.out.cg.cell 4 (by decide), H1.out.cg.cell 5 (by decide), H1.out.cg.cell 6 (by decide)⟩
  clear hU1 HB HH HD
  refine hK.out _ _ hS1 (fun hS2 => ?_)
  clear hK K
  try simp only [Act.put, List.setIfInBounds_toArray, List.set_cons_zero, List.set_cons_succ]
  clear hS1
  refine wpAnyH_ready (rs := [11]) (by kernel_rfl) (by simp) ?_
  refine AllReadyH.cons rfl (fun K hK => ?_) AllReadyH.nil
  go_simp
  refine HB1.out.mono ?_
  rintro e w2 ⟨rfl, hB2, hF2⟩
  have H2 := Lib.hid (H1.out.bank hF2 hB2)
  generalize XG X w1 w2 = X2 at *
  have hS3 : w2.cell? ⟨b, 0, none⟩ = some (.pointer (some ⟨h, 0, none⟩)) ∧ w2.cell? ⟨g, 4, none⟩ = some (.int .i64 s.acc.1) ∧ w2.cell? ⟨g, 5, none⟩ = some (.int .i64 s.acc.2.1) ∧ w2.cell? ⟨g, 6, none⟩ = some (.int .i64 s.acc.2.2) :=
    ⟨H2.out.cb.cell 0 (by decide), H2.out.cg.cell 4 (by decide), H2.out.cg.cell 5 (by decide), H2.out.cg.cell 6 (by decide)⟩
  clear hB2 hF2 HB1 H1
  refine hK.out _ _ hS3 (fun hS4 => ?_)
  clear hK K
  try simp only [Act.put, List.setIfInBounds_toArray, List.set_cons_zero, List.set_cons_succ]
  refine wpAnyH_take (i := 12) (v := ?_) rfl (by kernel_rfl) (by kernel_rfl) (by kernel_rfl) (fun _ _ _ h => h) (Or.inl ⟨by kernel_rfl, ?_⟩) hS4 ?_
  rotate_left
  · intro w hSw
    try dsimp only at hSw
    go_simp
    try (with_reducible rfl)
  try simp only [Act.put, List.setIfInBounds_toArray, List.set_cons_zero, List.set_cons_succ]
  refine wpAnyH_take (i := 13) (v := ?_) rfl (by kernel_rfl) (by kernel_rfl) (by kernel_rfl) (fun _ _ _ h => h) (Or.inl ⟨by kernel_rfl, ?_⟩) hS4 ?_
  rotate_left
  · intro w hSw
    try dsimp only at hSw
    go_simp
    try (with_reducible rfl)
  try simp only [Act.put, List.setIfInBounds_toArray, List.set_cons_zero, List.set_cons_succ]
  refine wpAnyH_take (i := 14) (v := ?_) rfl (by kernel_rfl) (by kernel_rfl) (by kernel_rfl) (fun _ _ _ h => h) (Or.inl ⟨by kernel_rfl, ?_⟩) hS4 ?_
  rotate_left
  · intro w hSw
    try dsimp only at hSw
    go_simp
    try (with_reducible rfl)
  try simp only [Act.put, List.setIfInBounds_toArray, List.set_cons_zero, List.set_cons_succ]
  refine wpAnyH_take (i := 15) (v := ?_) rfl (by kernel_rfl) (by kernel_rfl) (by kernel_rfl) (fun _ _ _ h => h) (Or.inl ⟨by kernel_rfl, ?_⟩) hS4 ?_
  rotate_left
  · intro w hSw
    try dsimp only at hSw
    go_simp
    try (with_reducible rfl)
  try simp only [Act.put, List.setIfInBounds_toArray, List.set_cons_zero, List.set_cons_succ]
  refine wpAnyH_take (i := 16) (v := ?_) rfl (by kernel_rfl) (by kernel_rfl) (by kernel_rfl) (fun _ _ _ h => h) (Or.inl ⟨by kernel_rfl, ?_⟩) hS4 ?_
  rotate_left
  · intro w hSw
    try dsimp only at hSw
    go_simp
    try (with_reducible rfl)
  try simp only [Act.put, List.setIfInBounds_toArray, List.set_cons_zero, List.set_cons_succ]
  refine wpAnyH_done (by kernel_rfl) ?_ _
  try simp only [Act.put, List.setIfInBounds_toArray, List.set_cons_zero, List.set_cons_succ, List.getElem_toArray, List.getElem_cons_succ, List.getElem_cons_zero]
  clear hS0 hS2 hS3 hS4
  obtain ⟨i0, hi, hz0, hz1, hz2⟩ := info_parts infoInt
  have HI := Lib.hid hi
  have HZ0 := Lib.hid hz0
  have HZ1 := Lib.hid hz1
  have HZ2 := Lib.hid hz2
  have g3 : w2.cell? ⟨g, 3, none⟩ = some va := H2.out.cg.cell 3 (by decide)
  obtain ⟨n, hn⟩ : ∃ n, s.ans.length = n := ⟨_, rfl⟩
  have HN := Lib.hid hn
  have HX := Lib.hid (fun (w3 : World) (g1 cap : Nat) => H2.out.growA (w1 := w3) (g1 := g1) (cap := cap) (x := r1))
  have HRA := Lib.hid H2.out.ra
  rw [hn] at HA HX HRA
  have HSZ := Lib.hid H2.out.sz
  clear hi hz0 hz1 hz2 hn H2
  obtain ⟨Aa, ca, rfl, hac, _⟩ := own_form HRA.out
  go_wp2_with (at_builtin; refine wpList_push3 (news := [.int .i64 r1]) rfl (.tmp 32) (.tmp 34) 43 rfl w0.heap.size i0 (.int .i64 0) 1 8 Try.underlying43 HI.out HZ0.out HZ1.out HZ2.out rfl (by decide) _ n (icells s.ans) rfl HRA.out rfl rfl (by simp [Value.oneCell']) (by decide) (by have := HA.out; omega) HSZ.out ?_; intro g1 cap w3 hown3 hg3 hor3 hlt3 hbel3; obtain ⟨c3, f3, HB3⟩ := HX.out w3 g1 cap hg3 hown3 hor3; have HB4 := Lib.hid HB3; clear HB3 hown3 hg3 hor3 hlt3 hbel3)
  obtain ⟨W4, hW4⟩ : ∃ x, w3.setCell ⟨g, 3, none⟩ (.slice (some ⟨g1, 0, none⟩) (n + 1) cap) = x := ⟨_, rfl⟩
  rw [hW4] at HB4 ⊢
  clear hW4 c3 f3 HX HRA g3 HI HZ0 HZ1 HZ2
  obtain ⟨xs, hx, ho⟩ := HB4.out.rm
  dsimp only at hx
  obtain ⟨Am, cm, rfl, hmc, _⟩ := own_form hx
  obtain ⟨i0, hi, hz0, hz1, hz2⟩ := info_parts infoMark
  have HI := Lib.hid hi
  have HZ0 := Lib.hid hz0
  have HZ1 := Lib.hid hz1
  have HZ2 := Lib.hid hz2
  obtain ⟨m, hm⟩ : ∃ m, s.ms = m := ⟨_, rfl⟩
  have HX5 := Lib.hid (fun (w5 : World) (g5 cap5 : Nat) => (HB4.out.grow (((Up.refl W4).alloc (.cells #[.int .i64 0, .int .i64 s.acc.1, .int .i64 s.acc.2.1, .int .i64 s.acc.2.2] 65)).drew)).growM (w1 := w5) (g1 := g5) (cap := cap5) (ys := xs ++ [.int .i64 0, .int .i64 s.acc.1, .int .i64 s.acc.2.1, .int .i64 s.acc.2.2]))
  dsimp only at HX5
  rw [hm] at hx HM HX5 hmc HB4
  have HMM := Lib.hid hm
  clear hm
  have HXS := Lib.hid hx
  have HOS := Lib.hid (show ∀ u ∈ xs ++ [.int .i64 0, .int .i64 s.acc.1, .int .i64 s.acc.2.1, .int .i64 s.acc.2.2], u.oneCell' = true from fun u hu => by
    rcases List.mem_append.1 hu with hu | hu
    · exact ho u hu
    · simp at hu; rcases hu with rfl | rfl | rfl | rfl <;> rfl)
  have HSZ4 := Lib.hid HB4.out.sz
  have hS : W4.drew.cell? ⟨g, 4, none⟩ = some (.int .i64 s.acc.1) ∧ W4.drew.cell? ⟨g, 5, none⟩ = some (.int .i64 s.acc.2.1) ∧ W4.drew.cell? ⟨g, 6, none⟩ = some (.int .i64 s.acc.2.2)   := ⟨HB4.out.cg.cell 4 (by decide), HB4.out.cg.cell 5 (by decide), HB4.out.cg.cell 6 (by decide)⟩
  have hua : Up W4 (W4.alloc (.cells #[.int .i64 0, .int .i64 s.acc.1, .int .i64 s.acc.2.1, .int .i64 s.acc.2.2] 65)).drew := ((Up.refl W4).alloc _).drew
  have HS2 := Lib.hid (show (W4.alloc (.cells #[.int .i64 0, .int .i64 s.acc.1, .int .i64 s.acc.2.1, .int .i64 s.acc.2.2] 65)).drew.cell? ⟨g, 4, none⟩ = some (.int .i64 s.acc.1) ∧ (W4.alloc (.cells #[.int .i64 0, .int .i64 s.acc.1, .int .i64 s.acc.2.1, .int .i64 s.acc.2.2] 65)).drew.cell? ⟨g, 5, none⟩ = some (.int .i64 s.acc.2.1) ∧ (W4.alloc (.cells #[.int .i64 0, .int .i64 s.acc.1, .int .i64 s.acc.2.1, .int .i64 s.acc.2.2] 65)).drew.cell? ⟨g, 6, none⟩ = some (.int .i64 s.acc.2.2) from
    ⟨(HB4.out.grow hua).cg.cell 4 (by decide), (HB4.out.grow hua).cg.cell 5 (by decide), (HB4.out.grow hua).cg.cell 6 (by decide)⟩)
  have hb6 : W4.cell? ⟨b, 6, none⟩ = some (.slice Am m cm) := HB4.out.cb.cell 6 (by decide)
  have hb6a : (W4.alloc (.cells #[.int .i64 0, .int .i64 s.acc.1, .int .i64 s.acc.2.1, .int .i64 s.acc.2.2] 65)).cell? ⟨b, 6, none⟩ = some (.slice Am m cm) := (HB4.out.grow hua).cb.cell 6 (by decide)
  clear hi hz0 hz1 hz2 hx ho hua HN HA HSZ hac
  refine wp_region_held_drew (S := fun w' => w'.cell? ⟨g, 4, none⟩ = some (.int .i64 s.acc.1) ∧ w'.cell? ⟨g, 5, none⟩ = some (.int .i64 s.acc.2.1) ∧ w'.cell? ⟨g, 6, none⟩ = some (.int .i64 s.acc.2.2)) (by kernel_rfl) hS (fun hS0 => ?_)
  clear hS
  refine wpAnyH_take (i := 0) (v := ?_) rfl (by kernel_rfl) (by kernel_rfl) (by kernel_rfl) (fun _ _ _ h => h) (Or.inl ⟨by kernel_rfl, ?_⟩) hS0 ?_
  rotate_left
  · intro w hSw
    try dsimp only at hSw
    go_simp
    try (with_reducible rfl)
  try simp only [Act.put, List.setIfInBounds_toArray, List.set_cons_zero, List.set_cons_succ]
  refine wpAnyH_take (i := 1) (v := ?_) rfl (by kernel_rfl) (by kernel_rfl) (by kernel_rfl) (fun _ _ _ h => h) (Or.inl ⟨by kernel_rfl, ?_⟩) hS0 ?_
  rotate_left
  · intro w hSw
    try dsimp only at hSw
    go_simp
    try (with_reducible rfl)
  try simp only [Act.put, List.setIfInBounds_toArray, List.set_cons_zero, List.set_cons_succ]
  refine wpAnyH_take (i := 2) (v := ?_) rfl (by kernel_rfl) (by kernel_rfl) (by kernel_rfl) (fun _ _ _ h => h) (Or.inl ⟨by kernel_rfl, ?_⟩) hS0 ?_
  rotate_left
  · intro w hSw
    try dsimp only at hSw
    go_simp
    try (with_reducible rfl)
  try simp only [Act.put, List.setIfInBounds_toArray, List.set_cons_zero, List.set_cons_succ]
  refine wpAnyH_take (i := 3) (v := ?_) rfl (by kernel_rfl) (by kernel_rfl) (by kernel_rfl) (fun _ _ _ h => h) (Or.inl ⟨by kernel_rfl, ?_⟩) hS0 ?_
  rotate_left
  · intro w hSw
    try dsimp only at hSw
    go_simp
    try (with_reducible rfl)
  try simp only [Act.put, List.setIfInBounds_toArray, List.set_cons_zero, List.set_cons_succ]
  refine wpAnyH_take (i := 5) (v := ?_) rfl (by kernel_rfl) (by kernel_rfl) (by kernel_rfl) (fun _ _ _ h => h) (Or.inl ⟨by kernel_rfl, ?_⟩) hS0 ?_
  rotate_left
  · intro w hSw
    try dsimp only at hSw
    go_simp
    try (with_reducible rfl)
  try simp only [Act.put, List.setIfInBounds_toArray, List.set_cons_zero, List.set_cons_succ]
  refine wpAnyH_take (i := 6) (v := ?_) rfl (by kernel_rfl) (by kernel_rfl) (by kernel_rfl) (fun _ _ _ h => h) (Or.inl ⟨by kernel_rfl, ?_⟩) hS0 ?_
  rotate_left
  · intro w hSw
    try dsimp only at hSw
    go_simp
    try (with_reducible rfl)
  try simp only [Act.put, List.setIfInBounds_toArray, List.set_cons_zero, List.set_cons_succ]
  refine wpAnyH_take (i := 7) (v := ?_) rfl (by kernel_rfl) (by kernel_rfl) (by kernel_rfl) (fun _ _ _ h => h) (Or.inl ⟨by kernel_rfl, ?_⟩) hS0 ?_
  rotate_left
  · intro w hSw
    try dsimp only at hSw
    go_simp
    try (with_reducible rfl)
  try simp only [Act.put, List.setIfInBounds_toArray, List.set_cons_zero, List.set_cons_succ]
  refine wpAnyH_take (i := 8) (v := ?_) rfl (by kernel_rfl) (by kernel_rfl) (by kernel_rfl) (fun _ _ _ h => h) (Or.inl ⟨by kernel_rfl, ?_⟩) hS0 ?_
  rotate_left
  · intro w hSw
    try dsimp only at hSw
    go_simp
    try (with_reducible rfl)
  try simp only [Act.put, List.setIfInBounds_toArray, List.set_cons_zero, List.set_cons_succ]
  refine wpAnyH_take (i := 9) (v := ?_) rfl (by kernel_rfl) (by kernel_rfl) (by kernel_rfl) (fun _ _ _ h => h) (Or.inl ⟨by kernel_rfl, ?_⟩) hS0 ?_
  rotate_left
  · intro w hSw
    try dsimp only at hSw
    go_simp
    try (with_reducible rfl)
  try simp only [Act.put, List.setIfInBounds_toArray, List.set_cons_zero, List.set_cons_succ]
  refine wpAnyH_take (i := 10) (v := ?_) rfl (by kernel_rfl) (by kernel_rfl) (by kernel_rfl) (fun _ _ _ h => h) (Or.inl ⟨by kernel_rfl, ?_⟩) hS0 ?_
  rotate_left
  · intro w hSw
    try dsimp only at hSw
    go_simp
    try (with_reducible rfl)
  try simp only [Act.put, List.setIfInBounds_toArray, List.set_cons_zero, List.set_cons_succ]
  refine wpAnyH_ready (rs := [4, 11]) (by kernel_rfl) (by simp) ?_
  refine AllReadyH.cons rfl (fun K hK => ?_) (AllReadyH.cons rfl (fun K hK => ?_) AllReadyH.nil)
  · go_simp
    refine hK.out _ _ hS0 (fun hS1 => ?_)
    clear hK K
    try simp only [Act.put, List.setIfInBounds_toArray, List.set_cons_zero, List.set_cons_succ]
    refine wpAnyH_ready (rs := [11]) (by kernel_rfl) (by simp) ?_
    refine AllReadyH.cons rfl (fun K hK => ?_) AllReadyH.nil
    go_simp
    refine hK.out _ _ HS2.out (fun hS2 => ?_)
    clear hK K
    try simp only [Act.put, List.setIfInBounds_toArray, List.set_cons_zero, List.set_cons_succ]
    refine wpAnyH_ready (rs := [12]) (by kernel_rfl) (by simp) ?_
    refine AllReadyH.cons rfl (fun K hK => ?_) AllReadyH.nil
    refine step_append_lies _ rfl (.tmp 42) (.tmp 49) 28 rfl w0.heap.size 65 i0 (.agg #[.int .i64 0, .int .i64 0, .int .i64 0, .int .i64 0]) 4 32 Try.underlying28 HI.out HZ0.out HZ1.out HZ2.out rfl (by decide) _ m xs rfl (own_same HXS.out fun k e => ((Up.refl W4).alloc _).drew.block k (HXS.out.lt k e).2) ⟨W4.heap.size, 0, none⟩ 1 1 [.int .i64 0, .int .i64 s.acc.1, .int .i64 s.acc.2.1, .int .i64 s.acc.2.2] rfl rfl (news1 W4 _ _) (by simp [Value.oneCell']) (by decide) (by have := HM.out; unfold maxLen; omega) (by have := HM.out; omega) (by have := HSZ4.out; simp; omega) _ rfl ?_
    intro g5 cap5 w5 hown5 hg5 hat5 hlt5
    obtain ⟨c6, f6, hB5⟩ := HX5.out w5 g5 cap5 hg5 hown5 HOS.out (hat5.imp id (fun e => by rw [e]; simp))
    have HB5 := Lib.hid hB5
    have q4 := hB5.cg.cell 4 (by decide)
    have q5 := hB5.cg.cell 5 (by decide)
    have q6 := hB5.cg.cell 6 (by decide)
    have HBG := Lib.hid hB5.bg
    have ho4 : ∀ j, (w5.setCell ⟨b, 6, none⟩ (.slice (some ⟨g5, 0, none⟩) (m + 1) cap5)).cell? ⟨g, j, none⟩ = w5.cell? ⟨g, j, none⟩ := fun j => cellE (Below.heap_setCell w5 ⟨b, 6, none⟩ _ g HBG.out.symm)
    rw [ho4] at q4 q5 q6
    have HQ := Lib.hid ho4
    clear hB5 hown5 hg5 hat5 hlt5 ho4
    refine hK.out _ _ ⟨q4, q5, q6⟩ (fun hS3 => ?_)
    clear hK K
    try simp only [Act.put, List.setIfInBounds_toArray, List.set_cons_zero, List.set_cons_succ]
    refine wpAnyH_take (i := 13) (v := ?_) rfl (by kernel_rfl) (by kernel_rfl) (by kernel_rfl) (fun _ _ _ h => h) (Or.inl ⟨by kernel_rfl, ?_⟩) hS3 ?_
    rotate_left
    · intro w hSw
      try dsimp only at hSw
      go_simp
      try (with_reducible rfl)
    try simp only [Act.put, List.setIfInBounds_toArray, List.set_cons_zero, List.set_cons_succ]
    refine wpAnyH_take (i := 14) (v := ?_) rfl (by kernel_rfl) (by kernel_rfl) (by kernel_rfl) (fun _ _ _ h => h) (Or.inl ⟨by kernel_rfl, ?_⟩) hS3 ?_
    rotate_left
    · intro w hSw
      try dsimp only at hSw
      go_simp
      try (with_reducible rfl)
    try simp only [Act.put, List.setIfInBounds_toArray, List.set_cons_zero, List.set_cons_succ]
    refine wpAnyH_ready (rs := [15]) (by kernel_rfl) (by simp) ?_
    refine AllReadyH.cons rfl (fun K hK => ?_) AllReadyH.nil
    go_simp
    refine hK.out _ _ ⟨(HQ.out 4).trans q4, (HQ.out 5).trans q5, (HQ.out 6).trans q6⟩ (fun hS4 => ?_)
    clear hK K
    try simp only [Act.put, List.setIfInBounds_toArray, List.set_cons_zero, List.set_cons_succ]
    refine wpAnyH_done (by kernel_rfl) ?_ _
    try simp only [Act.put, List.setIfInBounds_toArray, List.set_cons_zero, List.set_cons_succ, List.getElem_toArray, List.getElem_cons_succ, List.getElem_cons_zero]
    clear hS0 hS1 hS2 hS3 hS4 q4 q5 q6 c6 f6
    go_end0
    exact ⟨rfl, _, _, _, by rw [HMM.out]; exact HB5.out⟩
  · go_simp
    refine hK.out _ _ HS2.out (fun hS1 => ?_)
    clear hK K
    try simp only [Act.put, List.setIfInBounds_toArray, List.set_cons_zero, List.set_cons_succ]
    refine wpAnyH_ready (rs := [4]) (by kernel_rfl) (by simp) ?_
    refine AllReadyH.cons rfl (fun K hK => ?_) AllReadyH.nil
    go_simp
    refine hK.out _ _ hS1 (fun hS2 => ?_)
    clear hK K
    try simp only [Act.put, List.setIfInBounds_toArray, List.set_cons_zero, List.set_cons_succ]
    refine wpAnyH_ready (rs := [12]) (by kernel_rfl) (by simp) ?_
    refine AllReadyH.cons rfl (fun K hK => ?_) AllReadyH.nil
    refine step_append_lies _ rfl (.tmp 42) (.tmp 49) 28 rfl w0.heap.size 65 i0 (.agg #[.int .i64 0, .int .i64 0, .int .i64 0, .int .i64 0]) 4 32 Try.underlying28 HI.out HZ0.out HZ1.out HZ2.out rfl (by decide) _ m xs rfl (own_same HXS.out fun k e => ((Up.refl W4).alloc _).drew.block k (HXS.out.lt k e).2) ⟨W4.heap.size, 0, none⟩ 1 1 [.int .i64 0, .int .i64 s.acc.1, .int .i64 s.acc.2.1, .int .i64 s.acc.2.2] rfl rfl (news1 W4 _ _) (by simp [Value.oneCell']) (by decide) (by have := HM.out; unfold maxLen; omega) (by have := HM.out; omega) (by have := HSZ4.out; simp; omega) _ rfl ?_
    intro g5 cap5 w5 hown5 hg5 hat5 hlt5
    obtain ⟨c6, f6, hB5⟩ := HX5.out w5 g5 cap5 hg5 hown5 HOS.out (hat5.imp id (fun e => by rw [e]; simp))
    have HB5 := Lib.hid hB5
    have q4 := hB5.cg.cell 4 (by decide)
    have q5 := hB5.cg.cell 5 (by decide)
    have q6 := hB5.cg.cell 6 (by decide)
    have HBG := Lib.hid hB5.bg
    have ho4 : ∀ j, (w5.setCell ⟨b, 6, none⟩ (.slice (some ⟨g5, 0, none⟩) (m + 1) cap5)).cell? ⟨g, j, none⟩ = w5.cell? ⟨g, j, none⟩ := fun j => cellE (Below.heap_setCell w5 ⟨b, 6, none⟩ _ g HBG.out.symm)
    rw [ho4] at q4 q5 q6
    have HQ := Lib.hid ho4
    clear hB5 hown5 hg5 hat5 hlt5 ho4
    refine hK.out _ _ ⟨q4, q5, q6⟩ (fun hS3 => ?_)
    clear hK K
    try simp only [Act.put, List.setIfInBounds_toArray, List.set_cons_zero, List.set_cons_succ]
    refine wpAnyH_take (i := 13) (v := ?_) rfl (by kernel_rfl) (by kernel_rfl) (by kernel_rfl) (fun _ _ _ h => h) (Or.inl ⟨by kernel_rfl, ?_⟩) hS3 ?_
    rotate_left
    · intro w hSw
      try dsimp only at hSw
      go_simp
      try (with_reducible rfl)
    try simp only [Act.put, List.setIfInBounds_toArray, List.set_cons_zero, List.set_cons_succ]
    refine wpAnyH_take (i := 14) (v := ?_) rfl (by kernel_rfl) (by kernel_rfl) (by kernel_rfl) (fun _ _ _ h => h) (Or.inl ⟨by kernel_rfl, ?_⟩) hS3 ?_
    rotate_left
    · intro w hSw
      try dsimp only at hSw
      go_simp
      try (with_reducible rfl)
    try simp only [Act.put, List.setIfInBounds_toArray, List.set_cons_zero, List.set_cons_succ]
    refine wpAnyH_ready (rs := [15]) (by kernel_rfl) (by simp) ?_
    refine AllReadyH.cons rfl (fun K hK => ?_) AllReadyH.nil
    go_simp
    refine hK.out _ _ ⟨(HQ.out 4).trans q4, (HQ.out 5).trans q5, (HQ.out 6).trans q6⟩ (fun hS4 => ?_)
    clear hK K
    try simp only [Act.put, List.setIfInBounds_toArray, List.set_cons_zero, List.set_cons_succ]
    refine wpAnyH_done (by kernel_rfl) ?_ _
    try simp only [Act.put, List.setIfInBounds_toArray, List.set_cons_zero, List.set_cons_succ, List.getElem_toArray, List.getElem_cons_succ, List.getElem_cons_zero]
    clear hS0 hS1 hS2 hS3 hS4 q4 q5 q6 c6 f6
    go_end0
    exact ⟨rfl, _, _, _, by rw [HMM.out]; exact HB5.out⟩

end Go.Proofs.Ytedkgamecdmjdaa
