/-
  sort.Search at a bank's runs; fresh.
-/
import Derived.Test.YtedkgamecdmjdaaBankR
import Derived.Test.YtedkgamecdmjdaaBankN
import Derived.Test.YtedkgamecdmjdaaNew
import Derived.Shelf.SlSorted.Search
import Derived.RegionTactic
import Derived.Test.YtedkgamecdmjdaaLay
set_option linter.unusedVariables false
set_option linter.unusedSimpArgs false
namespace Go.Proofs.Ytedkgamecdmjdaa
open Go.RowKit Go.Shelf Go.Lib Go.Sort

/-- A row that is not written: its cells. -/
theorem runs_row {w : World} {B : Nat} {R : Value} {rs : List (Int × SD)} (h : w.ownsRow B 95 4 R rs.length (rcells rs)) :
    ∃ A c, R = .slice A rs.length c ∧ ∀ k r, rs[k]? = some r → ∃ g, A = some ⟨g, 0, none⟩ ∧ w.cell? ⟨g, k * 4, none⟩ = some (.int .i64 r.1) ∧ w.cell? ⟨g, k * 4 + 1, none⟩ = some (.int .i64 r.2.many) ∧ w.cell? ⟨g, k * 4 + 2, none⟩ = some (.int .i64 r.2.kind) ∧ w.cell? ⟨g, k * 4 + 3, none⟩ = some (.int .i64 r.2.top) := by
  rcases h.2 with ⟨hv, hn⟩ | ⟨g, cap, cur, hv, _⟩
  · refine ⟨none, 0, by rw [hv, hn], fun k r hk => ?_⟩
    have := (List.getElem?_eq_some_iff.1 hk).1
    omega
  · refine ⟨_, cap, hv, fun k r hk => ⟨g, rfl, ?_⟩⟩
    have hlt := (List.getElem?_eq_some_iff.1 hk).1
    rw [hv] at h
    have c : ∀ j, j < 4 → w.cell? ⟨g, k * 4 + j, none⟩ = (rcell r)[j]? := fun j hj => (h.cellAt (k * 4 + j) (by omega)).trans (rcells_at rs k r hk j hj)
    exact ⟨c 0 (by decide), c 1 (by decide), c 2 (by decide), c 3 (by decide)⟩

set_option maxHeartbeats 2000000 in
theorem closure_any (bb bn h g len cap i : Nat) (x n : Int) (W : World) (hi : i < len)
    (hb : W.cell? ⟨bb, 0, none⟩ = some (.pointer (some ⟨h, 0, none⟩))) (hn : W.cell? ⟨bn, 0, none⟩ = some (.int .i64 n)) (hr : W.cell? ⟨h, 0, none⟩ = some (.slice (some ⟨g, 0, none⟩) len cap)) (hc : W.cell? ⟨g, i * 4, none⟩ = some (.int .i64 x)) :
    Calls Try.prog 49 (#[.int .i64 i] ++ #[.pointer (some ⟨bb, 0, none⟩), .pointer (some ⟨bn, 0, none⟩)]) W fun e w' => e = .returned (.bool (decide (n < x))) ∧ ∃ q, w' = W.drewN q := by
  have hiz : (i : Int) < (len : Int) := by omega
  have hi0 : (0 : Int) ≤ (i : Int) := by omega
  clear hi
  go_enter Try.func49, Try.ntmps49
  go_wp2_with fail
  go_quiet (fail)
  go_wp2_with fail
  go_ret
  exact ⟨rfl, _, rfl⟩

set_option maxRecDepth 10000 in
set_option maxHeartbeats 4000000 in
theorem fresh_any (l : List SD) (B h m : Nat) (R : Value) (many : Int) (by' : Nat → Bool × Int) (sz : Nat) (F : Int → Option Nat) (n : Int) (w : World) (hl : l.length ≤ 1000) (H : BankO w B h m R many (runsK l l.length) by' sz F) (h0 : 0 ≤ n) (h1 : n < endK l l.length) :
    Calls Try.prog 44 #[.pointer (some ⟨h, 0, none⟩), .int .i64 n] w fun e w' => ∃ g, e = .returned (.pointer (some ⟨g, 0, none⟩)) ∧ w.heap.size ≤ g ∧ CellIs w' g g (mkP l n) (fun _ => .slice none 0 0) ∧ Up w w' := by
  obtain ⟨r, s, hr, hs, hrs⟩ := runs_at l n h0 l.length h1
  have hlen : (runsK l l.length).length < 4611686018427387904 := by have := runsK_len l l.length; omega
  have hmk : mkP l n = CS.new s.kind s.top := by unfold mkP; rw [hs]
  have hends := (runs_ends l l.length).2
  obtain ⟨A, c, rfl, hrow⟩ := runs_row H.row
  generalize runsK l l.length = rs at *
  obtain ⟨W0, hW0⟩ : ∃ W0, W0 = (w.alloc (.cells #[.pointer (some ⟨h, 0, none⟩)] 50)).alloc (.cells #[.int .i64 n] 3) := ⟨_, rfl⟩
  have hU0 : Up w W0 := by rw [hW0]; exact ((Up.refl w).alloc _).alloc _
  have hsize : W0.heap.size = w.heap.size + 1 + 1 := by rw [hW0]; simp
  have ca : W0.cell? ⟨w.heap.size, 0, none⟩ = some (.pointer (some ⟨h, 0, none⟩)) := by rw [hW0]; exact cell_alloc_sl _ (cell_new_sl w _ _)
  have cx : W0.cell? ⟨w.heap.size + 1, 0, none⟩ = some (.int .i64 n) := by rw [hW0]; have := cell_new_sl (w.alloc (.cells #[.pointer (some ⟨h, 0, none⟩)] 50)) (.int .i64 n) 3; rwa [World.size_alloc] at this
  obtain ⟨g, hg, _⟩ := hrow _ _ hr
  subst hg
  have k0 := (hU0.cell (p := ⟨h, 0, none⟩) H.blk.lt).trans H.blk.k0
  have hgl : g < w.heap.size := (H.row.lt g rfl).2
  have hhl := H.blk.lt
  have cc : ∀ k r, rs[k]? = some r → W0.cell? ⟨g, k * 4, none⟩ = some (.int .i64 r.1) ∧ W0.cell? ⟨g, k * 4 + 2, none⟩ = some (.int .i64 r.2.kind) ∧ W0.cell? ⟨g, k * 4 + 3, none⟩ = some (.int .i64 r.2.top) := fun k r hk => by
    obtain ⟨g', e, q0, _, q2, q3⟩ := hrow k r hk
    injection e with e
    injection e with e
    subst e
    exact ⟨(hU0.cell (cell_lt q0)).trans q0, (hU0.cell (cell_lt q2)).trans q2, (hU0.cell (cell_lt q3)).trans q3⟩
  have eg : ∀ args w, (callFunc 49 args).run Try.prog w = .ok (.enter 49 args) w := enters_of Try.func49 (by kernel_rfl) rfl
  have hS := Any.sort_Search Try.search 49 #[.pointer (some ⟨w.heap.size, 0, none⟩), .pointer (some ⟨w.heap.size + 1, 0, none⟩)] rs.length (fun i => decide (n < (rs.getD i (0, sd0)).1)) W0 eg hlen
    (fun m os i hi => (closure_any w.heap.size (w.heap.size + 1) h g rs.length c i ((rs.getD i (0, sd0)).1) n _ hi (cell_grown (by simp [hsize]; omega) ca m os) (cell_grown (by simp [hsize]) cx m os) (cell_grown (by simp [hsize]; omega) k0 m os)
      (cell_grown (by simp [hsize]; omega) (cc i _ (by rw [List.getD_eq_getElem?_getD, List.getElem?_eq_getElem hi]; rfl)).1 m os)).mono
      fun _ _ ⟨he, q, hq⟩ => ⟨he, q, #[], by rw [hq, grow_empty]⟩)
    (fun a b hab hb hp => by
      have hp := of_decide_eq_true hp
      refine decide_eq_true ?_
      rcases Nat.lt_or_ge a b with h | h
      · have := List.pairwise_iff_getElem.1 hends a b (by omega) hb h
        rw [List.getD_eq_getElem?_getD, List.getElem?_eq_getElem (by omega)] at hp
        rw [List.getD_eq_getElem?_getD, List.getElem?_eq_getElem hb]
        simp only [Option.getD_some] at hp ⊢
        omega
      · obtain rfl : a = b := by omega
        exact hp)
  have hcnt : (List.range rs.length).countP (fun i => !decide (n < (rs.getD i (0, sd0)).1)) = rs.countP (fun r => !decide (n < r.1)) := by
    have e : rs = (List.range rs.length).map (fun i => rs.getD i (0, sd0)) := by
      apply List.ext_getElem
      · simp
      · intro i h1 h2
        simp only [List.getElem_map, List.getElem_range]
        rw [List.getD_eq_getElem?_getD, List.getElem?_eq_getElem h1]; rfl
    conv => rhs; rw [e, List.countP_map]
    rfl
  rw [hcnt] at hS
  change Calls Try.prog 48 _ _ _ at hS
  obtain ⟨_, q2, q3⟩ := cc _ _ hr
  have hat : rs.countP (fun r => !decide (n < r.1)) < rs.length := (List.getElem?_eq_some_iff.1 hr).1
  generalize rs.countP (fun r => !decide (n < r.1)) = at' at *
  generalize rs.length = len at *
  obtain ⟨r1, r2, rk, rt⟩ := r
  dsimp only at q2 q3 hrs
  subst hrs
  rw [hmk]
  have HS := Lib.hid hS
  have HW0 := Lib.hid hW0
  have HU0 := Lib.hid hU0
  have ha1 : (at' : Int) < len := by omega
  have ha0 : (0 : Int) ≤ at' := by omega
  have HC := Lib.hid (fun W => new_any rk rt W)
  have HSZ := Lib.hid hsize
  have kk0 := H.blk.k0
  clear cc hrow hcnt hS hends hr hs hmk hlen H h1 hW0 hU0 eg hat hsize
  go_enter Try.func44, Try.ntmps44
  go_wp2_with fail
  rw [← HW0.out]
  refine HS.out.mono ?_
  rintro e w1 ⟨rfl, q, os, hw1⟩
  have hu1 : Up W0 w1 := by rw [hw1]; exact below_grown_sl _ _ _ _ (Nat.le_refl _)
  have HU1 := Lib.hid (HU0.out.trans hu1)
  have ca := (hu1.cell (cell_lt ca)).trans ca
  have k0 := (hu1.cell (cell_lt k0)).trans k0
  have q2 := (hu1.cell (cell_lt q2)).trans q2
  have q3 := (hu1.cell (cell_lt q3)).trans q3
  have hSS : w1.drew.cell? ⟨w.heap.size, 0, none⟩ = some (.pointer (some ⟨h, 0, none⟩)) ∧ w1.drew.cell? ⟨h, 0, none⟩ = some (.slice (some ⟨g, 0, none⟩) len c) ∧ w1.drew.cell? ⟨g, at' * 4 + 2, none⟩ = some (.int .i64 rk) ∧ w1.drew.cell? ⟨g, at' * 4 + 3, none⟩ = some (.int .i64 rt) := ⟨ca, k0, q2, q3⟩
  have HSS := Lib.hid hSS
  clear hw1 hu1 ca k0 q2 q3 cx HS HU0 HW0
  go_wp2_with fail
  refine wp_region_held_drew (S := fun w' => w'.cell? ⟨w.heap.size, 0, none⟩ = some (.pointer (some ⟨h, 0, none⟩)) ∧ w'.cell? ⟨h, 0, none⟩ = some (.slice (some ⟨g, 0, none⟩) len c) ∧ w'.cell? ⟨g, at' * 4 + 2, none⟩ = some (.int .i64 rk) ∧ w'.cell? ⟨g, at' * 4 + 3, none⟩ = some (.int .i64 rt)) (by kernel_rfl) hSS (fun hS0 => ?_)
  clear hSS
  refine wpAnyH_take (i := 0) (v := ?_) rfl (by kernel_rfl) (by kernel_rfl) (by kernel_rfl) (fun _ _ _ h => h) (Or.inl ⟨by kernel_rfl, ?_⟩) hS0 ?_
  rotate_left
  · intro w hSw
    try dsimp only at hSw
    go_simp
    try (with_reducible rfl)
  try simp only [Act.put, List.setIfInBounds_toArray, List.set_cons_zero, List.set_cons_succ]
  refine wpAnyH_take (i := 1) (v := ?_) rfl (by kernel_rfl) (by kernel_rfl) (by kernel_rfl) (fun _ _ _ h => h) (Or.inl ⟨by kernel_rfl, ?_⟩) hS0 ?_
  rotate_left
  · intro w hSw
    try dsimp only at hSw
    go_simp
    try (with_reducible rfl)
  try simp only [Act.put, List.setIfInBounds_toArray, List.set_cons_zero, List.set_cons_succ]
  refine wpAnyH_take (i := 2) (v := ?_) rfl (by kernel_rfl) (by kernel_rfl) (by kernel_rfl) (fun _ _ _ h => h) (Or.inl ⟨by kernel_rfl, ?_⟩) hS0 ?_
  rotate_left
  · intro w hSw
    try dsimp only at hSw
    go_simp
    try (with_reducible rfl)
  try simp only [Act.put, List.setIfInBounds_toArray, List.set_cons_zero, List.set_cons_succ]
  refine wpAnyH_take (i := 3) (v := ?_) rfl (by kernel_rfl) (by kernel_rfl) (by kernel_rfl) (fun _ _ _ h => h) (Or.inl ⟨by kernel_rfl, ?_⟩) hS0 ?_
  rotate_left
  · intro w hSw
    try dsimp only at hSw
    go_simp
    try (with_reducible rfl)
  try simp only [Act.put, List.setIfInBounds_toArray, List.set_cons_zero, List.set_cons_succ]
  refine wpAnyH_take (i := 4) (v := ?_) rfl (by kernel_rfl) (by kernel_rfl) (by kernel_rfl) (fun _ _ _ h => h) (Or.inl ⟨by kernel_rfl, ?_⟩) hS0 ?_
  rotate_left
  · intro w hSw
    try dsimp only at hSw
    go_simp
    try (with_reducible rfl)
  try simp only [Act.put, List.setIfInBounds_toArray, List.set_cons_zero, List.set_cons_succ]
  refine wpAnyH_take (i := 5) (v := ?_) rfl (by kernel_rfl) (by kernel_rfl) (by kernel_rfl) (fun _ _ _ h => h) (Or.inl ⟨by kernel_rfl, ?_⟩) hS0 ?_
  rotate_left
  · intro w hSw
    try dsimp only at hSw
    go_simp
    try (with_reducible rfl)
  try simp only [Act.put, List.setIfInBounds_toArray, List.set_cons_zero, List.set_cons_succ]
  refine wpAnyH_take (i := 6) (v := ?_) rfl (by kernel_rfl) (by kernel_rfl) (by kernel_rfl) (fun _ _ _ h => h) (Or.inl ⟨by kernel_rfl, ?_⟩) hS0 ?_
  rotate_left
  · intro w hSw
    try dsimp only at hSw
    go_simp
    try (with_reducible rfl)
  try simp only [Act.put, List.setIfInBounds_toArray, List.set_cons_zero, List.set_cons_succ]
  refine wpAnyH_take (i := 7) (v := ?_) rfl (by kernel_rfl) (by kernel_rfl) (by kernel_rfl) (fun _ _ _ h => h) (Or.inl ⟨by kernel_rfl, ?_⟩) hS0 ?_
  rotate_left
  · intro w hSw
    try dsimp only at hSw
    go_simp
    try (with_reducible rfl)
  try simp only [Act.put, List.setIfInBounds_toArray, List.set_cons_zero, List.set_cons_succ]
  refine wpAnyH_take (i := 8) (v := ?_) rfl (by kernel_rfl) (by kernel_rfl) (by kernel_rfl) (fun _ _ _ h => h) (Or.inl ⟨by kernel_rfl, ?_⟩) hS0 ?_
  rotate_left
  · intro w hSw
    try dsimp only at hSw
    go_simp
    try (with_reducible rfl)
  try simp only [Act.put, List.setIfInBounds_toArray, List.set_cons_zero, List.set_cons_succ]
  refine wpAnyH_take (i := 9) (v := ?_) rfl (by kernel_rfl) (by kernel_rfl) (by kernel_rfl) (fun _ _ _ h => h) (Or.inl ⟨by kernel_rfl, ?_⟩) hS0 ?_
  rotate_left
  · intro w hSw
    try dsimp only at hSw
    go_simp
    try (with_reducible rfl)
  try simp only [Act.put, List.setIfInBounds_toArray, List.set_cons_zero, List.set_cons_succ]
  refine wpAnyH_take (i := 10) (v := ?_) rfl (by kernel_rfl) (by kernel_rfl) (by kernel_rfl) (fun _ _ _ h => h) (Or.inl ⟨by kernel_rfl, ?_⟩) hS0 ?_
  rotate_left
  · intro w hSw
    try dsimp only at hSw
    go_simp
    try (with_reducible rfl)
  try simp only [Act.put, List.setIfInBounds_toArray, List.set_cons_zero, List.set_cons_succ]
  refine wpAnyH_take (i := 11) (v := ?_) rfl (by kernel_rfl) (by kernel_rfl) (by kernel_rfl) (fun _ _ _ h => h) (Or.inl ⟨by kernel_rfl, ?_⟩) hS0 ?_
  rotate_left
  · intro w hSw
    try dsimp only at hSw
    go_simp
    try (with_reducible rfl)
  try simp only [Act.put, List.setIfInBounds_toArray, List.set_cons_zero, List.set_cons_succ]
  refine wpAnyH_take (i := 12) (v := ?_) rfl (by kernel_rfl) (by kernel_rfl) (by kernel_rfl) (fun _ _ _ h => h) (Or.inl ⟨by kernel_rfl, ?_⟩) hS0 ?_
  rotate_left
  · intro w hSw
    try dsimp only at hSw
    go_simp
    try (with_reducible rfl)
  try simp only [Act.put, List.setIfInBounds_toArray, List.set_cons_zero, List.set_cons_succ]
  refine wpAnyH_take (i := 13) (v := ?_) rfl (by kernel_rfl) (by kernel_rfl) (by kernel_rfl) (fun _ _ _ h => h) (Or.inl ⟨by kernel_rfl, ?_⟩) hS0 ?_
  rotate_left
  · intro w hSw
    try dsimp only at hSw
    go_simp
    try (with_reducible rfl)
  try simp only [Act.put, List.setIfInBounds_toArray, List.set_cons_zero, List.set_cons_succ]
  refine wpAnyH_take (i := 14) (v := ?_) rfl (by kernel_rfl) (by kernel_rfl) (by kernel_rfl) (fun _ _ _ h => h) (Or.inl ⟨by kernel_rfl, ?_⟩) hS0 ?_
  rotate_left
  · intro w hSw
    try dsimp only at hSw
    go_simp
    try (with_reducible rfl)
  try simp only [Act.put, List.setIfInBounds_toArray, List.set_cons_zero, List.set_cons_succ]
  refine wpAnyH_take (i := 15) (v := ?_) rfl (by kernel_rfl) (by kernel_rfl) (by kernel_rfl) (fun _ _ _ h => h) (Or.inl ⟨by kernel_rfl, ?_⟩) hS0 ?_
  rotate_left
  · intro w hSw
    try dsimp only at hSw
    go_simp
    try (with_reducible rfl)
  try simp only [Act.put, List.setIfInBounds_toArray, List.set_cons_zero, List.set_cons_succ]
  refine wpAnyH_take (i := 16) (v := ?_) rfl (by kernel_rfl) (by kernel_rfl) (by kernel_rfl) (fun _ _ _ h => h) (Or.inl ⟨by kernel_rfl, ?_⟩) hS0 ?_
  rotate_left
  · intro w hSw
    try dsimp only at hSw
    go_simp
    try (with_reducible rfl)
  try simp only [Act.put, List.setIfInBounds_toArray, List.set_cons_zero, List.set_cons_succ]
  refine wpAnyH_take (i := 17) (v := ?_) rfl (by kernel_rfl) (by kernel_rfl) (by kernel_rfl) (fun _ _ _ h => h) (Or.inl ⟨by kernel_rfl, ?_⟩) hS0 ?_
  rotate_left
  · intro w hSw
    try dsimp only at hSw
    go_simp
    try (with_reducible rfl)
  try simp only [Act.put, List.setIfInBounds_toArray, List.set_cons_zero, List.set_cons_succ]
  refine wpAnyH_ready (rs := [18]) (by kernel_rfl) (by simp) ?_
  refine AllReadyH.cons rfl (fun K hK => ?_) AllReadyH.nil
  go_simp
  refine (HC.out _).mono ?_
  rintro e w2 ⟨rfl, hc2, hu2⟩
  have HC2 := Lib.hid hc2
  have HU2 := Lib.hid (((Up.refl w1).drew).trans hu2)
  obtain ⟨s1, s2, s3, s4⟩ := HSS.out
  have hS2 := And.intro ((hu2.cell (cell_lt s1)).trans s1) (And.intro ((hu2.cell (cell_lt s2)).trans s2) (And.intro ((hu2.cell (cell_lt s3)).trans s3) ((hu2.cell (cell_lt s4)).trans s4)))
  clear s1 s2 s3 s4 hc2 hu2
  refine hK.out _ _ hS2 (fun hS1 => ?_)
  clear hK K
  try simp only [Act.put, List.setIfInBounds_toArray, List.set_cons_zero, List.set_cons_succ]
  refine wpAnyH_take (i := 19) (v := ?_) rfl (by kernel_rfl) (by kernel_rfl) (by kernel_rfl) (fun _ _ _ h => h) (Or.inl ⟨by kernel_rfl, ?_⟩) hS1 ?_
  rotate_left
  · intro w hSw
    try dsimp only at hSw
    go_simp
    try (with_reducible rfl)
  try simp only [Act.put, List.setIfInBounds_toArray, List.set_cons_zero, List.set_cons_succ]
  refine wpAnyH_done (by kernel_rfl) ?_ _
  try simp only [Act.put, List.setIfInBounds_toArray, List.set_cons_zero, List.set_cons_succ, List.getElem_toArray, List.getElem_cons_succ, List.getElem_cons_zero]
  go_wp2_with fail
  go_ret
  exact ⟨_, rfl, HU1.out.size, HC2.out, HU1.out.trans HU2.out⟩

end Go.Proofs.Ytedkgamecdmjdaa
