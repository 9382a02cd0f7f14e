/-
  Package bench: play's closure.
-/
import Derived.Test.YtedkgamecdmjdaaBenA
import Derived.Test.YtedkgamecdmjdaaPlayM
set_option linter.unusedVariables false
set_option linter.unusedSimpArgs false
namespace Go.Proofs.Ytedkgamecdmjdaa
open Go.RowKit

/-- play's closure: what the bench does, told the thread and the call. -/
theorem pcl_any {w : World} {b : Nat} {F : Nat} {cap : Array Value} {p : TS → Option Int × TS} {ts : TS} {q1 q2 q3 : Nat} {k : Int} (g' B : Nat)
    (h1 : w.cell? ⟨q1, 0, none⟩ = some (.pointer (some ⟨b, 0, none⟩))) (h2 : w.cell? ⟨q2, 0, none⟩ = some (.int .i64 0)) (h3 : w.cell? ⟨q3, 0, none⟩ = some (.int .i64 k)) (hb : w.cell? ⟨b, 2, none⟩ = some (.func (.func F) #[] cap))
    (hcf : ∀ (args : Array Value) (W : World), (callFunc F args).run Try.prog W = .ok (.enter F args) W)
    (hq : q1 < g' ∧ q2 < g' ∧ q3 < g' ∧ b < g') (hT : Tape1 w g' B ts) (hdo : ∀ W, Up w W → Tape1 W g' B ts → Calls Try.prog F (#[.pointer (some ⟨g', 0, none⟩), .int .i64 0, .int .i64 k] ++ cap) W (TPost encI g' B W (p ts))) :
    Calls Try.prog 32 #[.pointer (some ⟨g', 0, none⟩), .pointer (some ⟨q1, 0, none⟩), .pointer (some ⟨q2, 0, none⟩), .pointer (some ⟨q3, 0, none⟩)] w (TPost encI g' B w (p ts)) := by
  have HD := Lib.hid (hdo w.drew (Up.refl w).drew (hT.up (Up.refl w).drew))
  have hgB := hT.1.gB
  have HKB := Lib.hid (fun (w' : World) (hk : TK g' B w.drew w') (q : Nat) (o : Nat) (v : Value) (hlt : q < g') (hc : w.cell? ⟨q, o, none⟩ = some v) => show w'.cell? ⟨q, o, none⟩ = some v from (tcell (hk.block q (cell_lt (w := w) hc) (by omega) (Far.low (by omega)))).trans hc)
  have HQ := Lib.hid hq
  obtain ⟨r, hr⟩ : ∃ r, p ts = r := ⟨_, rfl⟩
  rw [hr] at HD ⊢
  have hS : w.drew.cell? ⟨q1, 0, none⟩ = some (.pointer (some ⟨b, 0, none⟩)) ∧ w.drew.cell? ⟨q2, 0, none⟩ = some (.int .i64 0) ∧ w.drew.cell? ⟨q3, 0, none⟩ = some (.int .i64 k) ∧ w.drew.cell? ⟨b, 2, none⟩ = some (.func (.func F) #[] cap) := ⟨h1, h2, h3, hb⟩
  clear hdo hr hT h1 h2 h3 hb hq hgB
  go_enter Try.func32, Try.ntmps32
  go_wp2_with fail
  refine wp_region_held_drew (S := fun w' => w'.cell? ⟨q1, 0, none⟩ = some (.pointer (some ⟨b, 0, none⟩)) ∧ w'.cell? ⟨q2, 0, none⟩ = some (.int .i64 0) ∧ w'.cell? ⟨q3, 0, none⟩ = some (.int .i64 k) ∧ w'.cell? ⟨b, 2, none⟩ = some (.func (.func F) #[] cap)) (by kernel_rfl) hS (fun hS0 => ?_)
  clear hS
  refine wpAnyH_take (i := 0) (v := ?_) rfl (by kernel_rfl) (by kernel_rfl) (by kernel_rfl) (fun _ _ _ h => h) (Or.inl ⟨by kernel_rfl, ?_⟩) hS0 ?_
  rotate_left
  · intro w hSw
    try dsimp only at hSw
    go_simp
    try (with_reducible rfl)
  try simp only [Act.put, List.setIfInBounds_toArray, List.set_cons_zero, List.set_cons_succ]
  refine wpAnyH_take (i := 1) (v := ?_) rfl (by kernel_rfl) (by kernel_rfl) (by kernel_rfl) (fun _ _ _ h => h) (Or.inl ⟨by kernel_rfl, ?_⟩) hS0 ?_
  rotate_left
  · intro w hSw
    try dsimp only at hSw
    go_simp
    try (with_reducible rfl)
  try simp only [Act.put, List.setIfInBounds_toArray, List.set_cons_zero, List.set_cons_succ]
  refine wpAnyH_take (i := 2) (v := ?_) rfl (by kernel_rfl) (by kernel_rfl) (by kernel_rfl) (fun _ _ _ h => h) (Or.inl ⟨by kernel_rfl, ?_⟩) hS0 ?_
  rotate_left
  · intro w hSw
    try dsimp only at hSw
    go_simp
    try (with_reducible rfl)
  try simp only [Act.put, List.setIfInBounds_toArray, List.set_cons_zero, List.set_cons_succ]
  refine wpAnyH_take (i := 3) (v := ?_) rfl (by kernel_rfl) (by kernel_rfl) (by kernel_rfl) (fun _ _ _ h => h) (Or.inl ⟨by kernel_rfl, ?_⟩) hS0 ?_
  rotate_left
  · intro w hSw
    try dsimp only at hSw
    go_simp
    try (with_reducible rfl)
  try simp only [Act.put, List.setIfInBounds_toArray, List.set_cons_zero, List.set_cons_succ]
  refine wpAnyH_take (i := 4) (v := ?_) rfl (by kernel_rfl) (by kernel_rfl) (by kernel_rfl) (fun _ _ _ h => h) (Or.inl ⟨by kernel_rfl, ?_⟩) hS0 ?_
  rotate_left
  · intro w hSw
    try dsimp only at hSw
    go_simp
    try (with_reducible rfl)
  try simp only [Act.put, List.setIfInBounds_toArray, List.set_cons_zero, List.set_cons_succ]
  refine wpAnyH_take (i := 5) (v := ?_) rfl (by kernel_rfl) (by kernel_rfl) (by kernel_rfl) (fun _ _ _ h => h) (Or.inl ⟨by kernel_rfl, ?_⟩) hS0 ?_
  rotate_left
  · intro w hSw
    try dsimp only at hSw
    go_simp
    try (with_reducible rfl)
  try simp only [Act.put, List.setIfInBounds_toArray, List.set_cons_zero, List.set_cons_succ]
  refine wpAnyH_take (i := 6) (v := ?_) rfl (by kernel_rfl) (by kernel_rfl) (by kernel_rfl) (fun _ _ _ h => h) (Or.inl ⟨by kernel_rfl, ?_⟩) hS0 ?_
  rotate_left
  · intro w hSw
    try dsimp only at hSw
    go_simp
    try (with_reducible rfl)
  try simp only [Act.put, List.setIfInBounds_toArray, List.set_cons_zero, List.set_cons_succ]
  refine wpAnyH_ready (rs := [7]) (by kernel_rfl) (by simp) ?_
  refine AllReadyH.cons rfl (fun K hK => ?_) AllReadyH.nil
  go_simp
  refine HD.out.mono ?_
  intro e w' hT
  obtain ⟨ro, s'⟩ := r
  cases ro with
  | none =>
    obtain ⟨rfl, hT1, hT2⟩ := TPost.of_none rfl hT
    clear hK
    dsimp only
    clear K
    go_wp2_with fail
    exact ⟨rfl, TPost.none rfl ⟨rfl, hT1, (TK.ofUp (Up.refl w).drew).trans hT2⟩⟩
  | some v =>
    obtain ⟨rfl, hT1, hT2⟩ := TPost.of_some rfl hT
    have HT1 := Lib.hid hT1
    have HT2 := Lib.hid ((TK.ofUp (Up.refl w).drew).trans hT2)
    have hS2 : w'.cell? ⟨q1, 0, none⟩ = some (.pointer (some ⟨b, 0, none⟩)) ∧ w'.cell? ⟨q2, 0, none⟩ = some (.int .i64 0) ∧ w'.cell? ⟨q3, 0, none⟩ = some (.int .i64 k) ∧ w'.cell? ⟨b, 2, none⟩ = some (.func (.func F) #[] cap) :=
      ⟨HKB.out w' hT2 q1 0 _ HQ.out.1 hS0.1, HKB.out w' hT2 q2 0 _ HQ.out.2.1 hS0.2.1, HKB.out w' hT2 q3 0 _ HQ.out.2.2.1 hS0.2.2.1, HKB.out w' hT2 b 2 _ HQ.out.2.2.2 hS0.2.2.2⟩
    clear hT hT1 hT2 HKB HQ HD
    refine hK.out _ _ hS2 (fun hS3 => ?_)
    clear hK K
    try simp only [Act.put, List.setIfInBounds_toArray, List.set_cons_zero, List.set_cons_succ]
    refine wpAnyH_take (i := 8) (v := ?_) rfl (by kernel_rfl) (by kernel_rfl) (by kernel_rfl) (fun _ _ _ h => h) (Or.inl ⟨by kernel_rfl, ?_⟩) hS3 ?_
    rotate_left
    · intro w hSw
      try dsimp only at hSw
      go_simp
      try (with_reducible rfl)
    try simp only [Act.put, List.setIfInBounds_toArray, List.set_cons_zero, List.set_cons_succ]
    refine wpAnyH_done (by kernel_rfl) ?_ _
    try simp only [Act.put, List.setIfInBounds_toArray, List.set_cons_zero, List.set_cons_succ, List.getElem_toArray, List.getElem_cons_succ, List.getElem_cons_zero]
    clear hS0 hS2 hS3
    go_wp2_with fail
    go_ret
    exact TPost.some rfl ⟨rfl, HT1.out, HT2.out⟩

end Go.Proofs.Ytedkgamecdmjdaa
