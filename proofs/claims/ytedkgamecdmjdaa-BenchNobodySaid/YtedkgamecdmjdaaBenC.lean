/-
  Package bench: begin, end of a thread's access; Marks.
-/
import Derived.Test.YtedkgamecdmjdaaBenB
import Derived.Deep.RegionLaw
import Derived.Deep.RegionHeld3
set_option linter.unusedVariables false
set_option linter.unusedSimpArgs false
namespace Go.Proofs.Ytedkgamecdmjdaa
open Go.RowKit

/-- wpList_push, and which block the row lies in. -/
theorem wpList_push3 {P : Program} {ops : Array Oper} {rest : List Oper} {o : Oper} {a : Act} {Q : Exit → Act → World → Prop} {w : World} {e : TypeId} {news : List Value} (hgd : o.guard = none) (s x : Operand) (t : TypeId)
    (ho : o.op = .call { callee := .builtin .append, args := #[s, x], argTypes := #[t, t] })
    (B : Nat) (i : TypeInfo) (z : Value) (size bytes : Nat) (ht : P.underlying t = some (.slice e)) (hi : P.info? e = some i) (hz : i.zero = some z)
    (hsize : i.size = size) (hby : i.bytes = bytes) (hzs : z.cells.size = size) (hsz : 0 < size)
    (v : Value) (n : Nat) (xs : List Value) (hs : a.eval s = v) (hown : w.ownsRow B e size v n xs)
    (hx : a.eval x = .slice (some ⟨w.heap.size, 0, none⟩) 1 1) (hl : news.length = size) (h1 : ∀ u ∈ news, u.oneCell' = true)
    (hb1 : 0 < bytes) (hbytes : (n + 1) * bytes ≤ 140737488355328) (hB : B ≤ w.heap.size)
    (h : ∀ g cap w', w'.ownsRow B e size (.slice (some ⟨g, 0, none⟩) (n + 1) cap) (n + 1) (xs ++ news) → w.grownBy w' v.ownBlock → (v.ownBlock = some g ∨ w.heap.size ≤ g) → g < w'.heap.size → Below B w w' → wpList P ops Q rest (a.put o.dst (.slice (some ⟨g, 0, none⟩) (n + 1) cap)) w') :
    wpList P ops Q (o :: rest) a (w.alloc (.cells news.toArray e)) := by
  have h63 : n + 1 ≤ maxLen := by
    have : n + 1 ≤ (n + 1) * bytes := Nat.le_mul_of_pos_right _ hb1
    unfold maxLen; omega
  refine wpList_append_lies (w.alloc (.cells news.toArray e)) hgd s x t ho B e i z size bytes ht hi hz hsize hby hzs hsz v n xs hs (hown.alloc _) ⟨w.heap.size, 0, none⟩ 1 1 news hx (by omega) (fun j u hu => cells_new w news e j u hu) h1 (by decide) h63 hbytes (by simp; omega) _ rfl ?_
  intro g cap w' hown' hg hor hlt
  have hg' : w.grownBy w' v.ownBlock := ⟨hg.os, hg.tape, hg.output, Nat.le_trans (by simp) hg.size, fun k hk hne => (hg.block k (by simp; omega) hne).trans (Below.heap_alloc w _ k hk)⟩
  exact h g cap w' hown' hg' (hor.imp id (fun e => by rw [e]; simp)) hlt (grownBy_below hg' hB (own_ge hown))


set_option maxRecDepth 10000 in
theorem marks_any {w0 w : World} {b g h c1 : Nat} {f : Value} {l : List SD} {s : TB} {u : BS} {N : Nat} {vm va vl : Value} {X : Nat → Prop} (H : Ben w0 w b g h c1 f l s u N vm va vl X) (hm : s.ms ≤ 1000000) :
    Calls Try.prog 9 #[.pointer (some ⟨b, 0, none⟩)] w fun e w' => (∃ A c, e = .returned (.slice A s.ms c)) ∧ Up w w' := by
  obtain ⟨xs, hx, ho⟩ := H.rm
  have HC := Lib.hid (cloneM_any s.ms vm _ xs w hx hm ho)
  have h6 : w.cell? ⟨b, 6, none⟩ = some vm := H.cb.cell 6 (by decide)
  clear hx ho H hm
  go_enter Try.func9, Try.ntmps9
  go_wp2_with fail
  refine HC.out.mono ?_
  rintro e w' ⟨⟨A, c, rfl⟩, hu⟩
  have HU := Lib.hid hu
  clear hu
  go_wp2_with fail
  go_ret
  exact ⟨⟨_, _, rfl⟩, HU.out⟩

set_option maxRecDepth 10000 in
set_option maxHeartbeats 2000000 in
theorem bbegin_any {w0 w : World} {b g h c1 : Nat} {f : Value} {l : List SD} {s : TB} {u : BS} {N : Nat} {vm va vl : Value} {X : Nat → Prop} (H : Ben w0 w b g h c1 f l s u N vm va vl X) (hfit : Fit l) (hN : N ≤ 900)
    (hok : (u.begin (cntK l l.length) 6 (mkP l) 0 s.acc.1 s.acc.2.1 s.acc.2.2).1 = 0) :
    Calls Try.prog 18 #[.pointer (some ⟨b, 0, none⟩), .int .i64 0] w fun e w' => e = .returned (.tuple #[]) ∧ ∃ X', Ben w0 w' b g h c1 f l { s with st := 2 } (u.begin (cntK l l.length) 6 (mkP l) 0 s.acc.1 s.acc.2.1 s.acc.2.2).2 (N + 9) vm va vl X' := by
  have HH := Lib.hid (H.grow (Up.refl w).drew)
  have HB := Lib.hid (beginM_any l w0.heap.size h N u X 0 s.acc.1 s.acc.2.1 s.acc.2.2 w.drew hfit (by decide) (by decide) HH.out.bk hN)
  rw [hok] at HB
  generalize (u.begin (cntK l l.length) 6 (mkP l) 0 s.acc.1 s.acc.2.1 s.acc.2.2).2 = u' at *
  have b1 : w.cell? ⟨b, 1, none⟩ = some (.slice (some ⟨g, 0, none⟩) 1 c1) := H.cb.cell 1 (by decide)
  have hS : w.drew.cell? ⟨b, 0, none⟩ = some (.pointer (some ⟨h, 0, none⟩)) ∧ w.drew.cell? ⟨g, 4, none⟩ = some (.int .i64 s.acc.1) ∧ w.drew.cell? ⟨g, 5, none⟩ = some (.int .i64 s.acc.2.1) ∧ w.drew.cell? ⟨g, 6, none⟩ = some (.int .i64 s.acc.2.2) :=
    ⟨HH.out.cb.cell 0 (by decide), HH.out.cg.cell 4 (by decide), HH.out.cg.cell 5 (by decide), HH.out.cg.cell 6 (by decide)⟩
  clear H hok hfit hN
  go_enter Try.func18, Try.ntmps18
  go_wp2_with fail
  clear b1
  refine wp_region_held_drew (S := fun w' => w'.cell? ⟨b, 0, none⟩ = some (.pointer (some ⟨h, 0, none⟩)) ∧ w'.cell? ⟨g, 4, none⟩ = some (.int .i64 s.acc.1) ∧ w'.cell? ⟨g, 5, none⟩ = some (.int .i64 s.acc.2.1) ∧ w'.cell? ⟨g, 6, none⟩ = some (.int .i64 s.acc.2.2)) (by kernel_rfl) hS (fun hS0 => ?_)
  clear hS
  refine wpAnyH_take (i := 0) (v := ?_) rfl (by kernel_rfl) (by kernel_rfl) (by kernel_rfl) (fun _ _ _ h => h) (Or.inl ⟨by kernel_rfl, ?_⟩) hS0 ?_
  rotate_left
  · intro w hSw
    try dsimp only at hSw
    go_simp
    try (with_reducible rfl)
  try simp only [Act.put, List.setIfInBounds_toArray, List.set_cons_zero, List.set_cons_succ]
  refine wpAnyH_take (i := 1) (v := ?_) rfl (by kernel_rfl) (by kernel_rfl) (by kernel_rfl) (fun _ _ _ h => h) (Or.inl ⟨by kernel_rfl, ?_⟩) hS0 ?_
  rotate_left
  · intro w hSw
    try dsimp only at hSw
    go_simp
    try (with_reducible rfl)
  try simp only [Act.put, List.setIfInBounds_toArray, List.set_cons_zero, List.set_cons_succ]
  refine wpAnyH_take (i := 2) (v := ?_) rfl (by kernel_rfl) (by kernel_rfl) (by kernel_rfl) (fun _ _ _ h => h) (Or.inl ⟨by kernel_rfl, ?_⟩) hS0 ?_
  rotate_left
  · intro w hSw
    try dsimp only at hSw
    go_simp
    try (with_reducible rfl)
  try simp only [Act.put, List.setIfInBounds_toArray, List.set_cons_zero, List.set_cons_succ]
  refine wpAnyH_take (i := 3) (v := ?_) rfl (by kernel_rfl) (by kernel_rfl) (by kernel_rfl) (fun _ _ _ h => h) (Or.inl ⟨by kernel_rfl, ?_⟩) hS0 ?_
  rotate_left
  · intro w hSw
    try dsimp only at hSw
    go_simp
    try (with_reducible rfl)
  try simp only [Act.put, List.setIfInBounds_toArray, List.set_cons_zero, List.set_cons_succ]
  refine wpAnyH_take (i := 4) (v := ?_) rfl (by kernel_rfl) (by kernel_rfl) (by kernel_rfl) (fun _ _ _ h => h) (Or.inl ⟨by kernel_rfl, ?_⟩) hS0 ?_
  rotate_left
  · intro w hSw
    try dsimp only at hSw
    go_simp
    try (with_reducible rfl)
  try simp only [Act.put, List.setIfInBounds_toArray, List.set_cons_zero, List.set_cons_succ]
  refine wpAnyH_take (i := 5) (v := ?_) rfl (by kernel_rfl) (by kernel_rfl) (by kernel_rfl) (fun _ _ _ h => h) (Or.inl ⟨by kernel_rfl, ?_⟩) hS0 ?_
  rotate_left
  · intro w hSw
    try dsimp only at hSw
    go_simp
    try (with_reducible rfl)
  try simp only [Act.put, List.setIfInBounds_toArray, List.set_cons_zero, List.set_cons_succ]
  refine wpAnyH_take (i := 6) (v := ?_) rfl (by kernel_rfl) (by kernel_rfl) (by kernel_rfl) (fun _ _ _ h => h) (Or.inl ⟨by kernel_rfl, ?_⟩) hS0 ?_
  rotate_left
  · intro w hSw
    try dsimp only at hSw
    go_simp
    try (with_reducible rfl)
  try simp only [Act.put, List.setIfInBounds_toArray, List.set_cons_zero, List.set_cons_succ]
  refine wpAnyH_take (i := 7) (v := ?_) rfl (by kernel_rfl) (by kernel_rfl) (by kernel_rfl) (fun _ _ _ h => h) (Or.inl ⟨by kernel_rfl, ?_⟩) hS0 ?_
  rotate_left
  · intro w hSw
    try dsimp only at hSw
    go_simp
    try (with_reducible rfl)
  try simp only [Act.put, List.setIfInBounds_toArray, List.set_cons_zero, List.set_cons_succ]
  refine wpAnyH_take (i := 8) (v := ?_) rfl (by kernel_rfl) (by kernel_rfl) (by kernel_rfl) (fun _ _ _ h => h) (Or.inl ⟨by kernel_rfl, ?_⟩) hS0 ?_
  rotate_left
  · intro w hSw
    try dsimp only at hSw
    go_simp
    try (with_reducible rfl)
  try simp only [Act.put, List.setIfInBounds_toArray, List.set_cons_zero, List.set_cons_succ]
  refine wpAnyH_ready (rs := [9]) (by kernel_rfl) (by simp) ?_
  refine AllReadyH.cons rfl (fun K hK => ?_) AllReadyH.nil
  go_simp
  refine HB.out.mono ?_
  rintro e w2 ⟨rfl, hB2, hF2⟩
  have H2 := Lib.hid (HH.out.bank hF2 hB2)
  have hS2 : w2.cell? ⟨b, 0, none⟩ = some (.pointer (some ⟨h, 0, none⟩)) ∧ w2.cell? ⟨g, 4, none⟩ = some (.int .i64 s.acc.1) ∧ w2.cell? ⟨g, 5, none⟩ = some (.int .i64 s.acc.2.1) ∧ w2.cell? ⟨g, 6, none⟩ = some (.int .i64 s.acc.2.2) :=
    ⟨H2.out.cb.cell 0 (by decide), H2.out.cg.cell 4 (by decide), H2.out.cg.cell 5 (by decide), H2.out.cg.cell 6 (by decide)⟩
  clear hB2 hF2 HB HH
  refine hK.out _ _ hS2 (fun hS3 => ?_)
  clear hK K
  try simp only [Act.put, List.setIfInBounds_toArray, List.set_cons_zero, List.set_cons_succ]
  refine wpAnyH_take (i := 10) (v := ?_) rfl (by kernel_rfl) (by kernel_rfl) (by kernel_rfl) (fun _ _ _ h => h) (Or.inl ⟨by kernel_rfl, ?_⟩) hS3 ?_
  rotate_left
  · intro w hSw
    try dsimp only at hSw
    go_simp
    try (with_reducible rfl)
  try simp only [Act.put, List.setIfInBounds_toArray, List.set_cons_zero, List.set_cons_succ]
  refine wpAnyH_done (by kernel_rfl) ?_ _
  try simp only [Act.put, List.setIfInBounds_toArray, List.set_cons_zero, List.set_cons_succ, List.getElem_toArray, List.getElem_cons_succ, List.getElem_cons_zero]
  have g7 : w2.cell? ⟨g, 7, none⟩ = some (.int .i64 s.st) := H2.out.cg.cell 7 (by decide)
  have f7 := H2.out.cg.fz 7
  clear hS0 hS2 hS3
  have HF := Lib.hid (H2.out.setN (s' := { s with st := 2 }) (j := 7) (by decide) (.int .i64 2) (fun i hi => by match i, hi with | 0, _ | 1, _ | 2, _ | 3, _ | 4, _ | 5, _ | 6, _ | 7, _ | 8, _ => rfl) rfl rfl rfl rfl)
  clear H2
  go_wp2_with fail
  go_end0
  exact ⟨rfl, _, HF.out⟩

end Go.Proofs.Ytedkgamecdmjdaa
