/-
  tape.Play at int.
-/
import Derived.Test.YtedkgamecdmjdaaTapeH
set_option linter.unusedVariables false
set_option linter.unusedSimpArgs false
namespace Go.Proofs.Ytedkgamecdmjdaa
open Go.RowKit

/-- An api.Out in memory. -/
def OutIs (w : World) (v : Value) (done : Bool) (s : TS) : Prop := ∃ A c N d L e, v = .agg #[.bool done, .slice A s.acc.length c, .slice N s.nts.length d, .slice L (shortL s.loc).length e] ∧
  AccRow w A s.acc ∧ NoteRow w N s.nts ∧ Row w L (shortL s.loc).length (IVal (shortL s.loc)) ∧ (L = none → e = 0)

/-- A store into a block of Play's own, below the tape. -/
theorem TapeIs.low {w w' : World} {g B b : Nat} {st : Int} {s : TS} (h : TapeIs w g B st s) (hb : b < g) (hb2 : g ≤ b + 2) (hs : w.heap.size ≤ w'.heap.size) (hk : ∀ k, k < w.heap.size → k ≠ b → w'.heap[k]? = w.heap[k]?) : TapeIs w' g B st s := by
  have hgB := h.gB
  have hg := hk g h.gs (by omega)
  have hrow : ∀ e k cs, B ≤ k → w.heap[k]? = some (.cells cs e (0, 0)) → w'.heap[k]? = w.heap[k]? := fun e k cs hB hh => hk k (Array.getElem?_eq_some_iff.1 hh).1 (by omega)
  refine ⟨h.gB, Nat.le_trans h.sz hs, (tcell hg).trans h.c0, fun j => (tfrozen hg).trans (h.fz j), ?_, ?_, ?_, ?_, h.la, h.lb, h.ll⟩
  · obtain ⟨A, c, h1, h2, h3⟩ := h.ans
    refine ⟨A, c, (tcell hg).trans h1, fun k hlt => ?_, h3⟩
    obtain ⟨b', off, e, hc⟩ := h2 k hlt
    exact ⟨b', off, e, (tcell (hk b' (cell_lt hc) (by have := h3 b' off e (by omega); omega))).trans hc⟩
  · obtain ⟨v, h1, h2⟩ := h.loc
    exact ⟨v, (tcell hg).trans h1, own_keep h2 (hrow _)⟩
  · obtain ⟨v, h1, h2⟩ := h.acc
    exact ⟨v, (tcell hg).trans h1, own_keep h2 (hrow _)⟩
  · obtain ⟨v, h1, h2⟩ := h.nts
    exact ⟨v, (tcell hg).trans h1, own_keep h2 (hrow _)⟩

theorem heap_new1 (w : World) (o : Obj) : (w.alloc o).heap[w.heap.size]? = some o := heap_alloc_new w o
/-- The world that Play begins with. -/
structure Begun (w W : World) (z : Value) (tz : TypeId) (A1 : Option Addr) (n c : Nat) : Prop where
  up : Up w W
  sz : W.heap.size = w.heap.size + 4
  b0 : W.heap[w.heap.size]? = some (.cells #[z] tz (0, 0))
  b1 : W.heap[w.heap.size + 1]? = some (.cells #[.bool false, .slice none 0 0, .slice none 0 0, .slice none 0 0] 74 (0, 0))
  b2 : W.heap[w.heap.size + 1 + 1]? = some (.cells #[.int .i64 1, .slice A1 n c, .slice none 0 0, .slice none 0 0, .slice none 0 0] 97 (0, 0))
  b3 : W.heap[w.heap.size + 1 + 1 + 1]? = some (.cells #[.pointer (some ⟨w.heap.size + 1 + 1, 0, none⟩)] 44 (0, 0))
theorem begun (w : World) (z : Value) (tz : TypeId) (A1 : Option Addr) (n c : Nat) :
    Begun w ((((w.alloc (.cells #[z] tz)).alloc (.cells #[.bool false, .slice none 0 0, .slice none 0 0, .slice none 0 0] 74)).alloc
      (.cells #[.int .i64 1, .slice A1 n c, .slice none 0 0, .slice none 0 0, .slice none 0 0] 97)).alloc (.cells #[.pointer (some ⟨w.heap.size + 1 + 1, 0, none⟩)] 44)) z tz A1 n c where
  up := ((((Up.refl w).alloc _).alloc _).alloc _).alloc _
  sz := by simp
  b0 := by
    rw [Below.heap_alloc _ _ _ (by simp; omega), Below.heap_alloc _ _ _ (by simp; omega), Below.heap_alloc _ _ _ (by simp)]
    exact heap_alloc_new w _
  b1 := by
    rw [Below.heap_alloc _ _ _ (by simp), Below.heap_alloc _ _ _ (by simp)]
    have := heap_alloc_new (w.alloc (.cells #[z] tz)) (.cells #[.bool false, .slice none 0 0, .slice none 0 0, .slice none 0 0] 74)
    rw [World.size_alloc] at this
    exact this
  b2 := by
    rw [Below.heap_alloc _ _ _ (by simp)]
    have := heap_alloc_new ((w.alloc (.cells #[z] tz)).alloc (.cells #[.bool false, .slice none 0 0, .slice none 0 0, .slice none 0 0] 74)) (.cells #[.int .i64 1, .slice A1 n c, .slice none 0 0, .slice none 0 0, .slice none 0 0] 97)
    rw [World.size_alloc, World.size_alloc] at this
    exact this
  b3 := by
    have := heap_alloc_new (((w.alloc (.cells #[z] tz)).alloc (.cells #[.bool false, .slice none 0 0, .slice none 0 0, .slice none 0 0] 74)).alloc (.cells #[.int .i64 1, .slice A1 n c, .slice none 0 0, .slice none 0 0, .slice none 0 0] 97)) (.cells #[.pointer (some ⟨w.heap.size + 1 + 1, 0, none⟩)] 44)
    rw [World.size_alloc, World.size_alloc, World.size_alloc] at this
    exact this

/-- The locals are laid: the operation may begin. -/
theorem begun_tape {w W W1 : World} {z : Value} {tz : TypeId} {A1 : Option Addr} {c : Nat} {ans loc : List Int} {v : Value} (h : Begun w W z tz A1 ans.length c) (hr1 : Row w A1 ans.length (IVal ans)) (hl0 : loc.length ≤ 3000) (hl1 : ans.length ≤ 3000)
    (hU : Up W W1) (hown : W1.ownsRow W.heap.size 3 1 v loc.length (icells loc)) :
    Tape1 (W1.setCell ⟨w.heap.size + 1 + 1, 2, none⟩ v) (w.heap.size + 1 + 1) (w.heap.size + 4) ⟨ans, loc, [], []⟩ := by
  have hs := h.sz
  have hkeep : ∀ k, k < W.heap.size → k ≠ w.heap.size + 1 + 1 → (W1.setCell ⟨w.heap.size + 1 + 1, 2, none⟩ v).heap[k]? = W.heap[k]? := fun k hk hne => (Below.heap_setCell W1 ⟨w.heap.size + 1 + 1, 2, none⟩ v k hne).trans (hU.block k hk)
  have hb2 := (hU.block (w.heap.size + 1 + 1) (by omega)).trans h.b2
  have hc : ∀ j, j ≠ 2 → (W1.setCell ⟨w.heap.size + 1 + 1, 2, none⟩ v).cell? ⟨w.heap.size + 1 + 1, j, none⟩ = W1.cell? ⟨w.heap.size + 1 + 1, j, none⟩ := fun j hj => World.cell?_setCell_other _ _ _ _ (by simp <;> omega)
  have hcj : ∀ j, W1.cell? ⟨w.heap.size + 1 + 1, j, none⟩ = #[Value.int .i64 1, .slice A1 ans.length c, .slice none 0 0, .slice none 0 0, .slice none 0 0][j]? := fun j => cell_of_row W1 _ j _ _ _ hb2
  refine ⟨⟨by omega, by have := hU.size; simp; omega, (hc 0 (by decide)).trans (hcj 0), fun j => ?_, ⟨A1, c, (hc 1 (by decide)).trans (hcj 1), ?_, ?_⟩, ⟨v, World.cell?_setCell_same _ _ _ (hcj 2), ?_⟩, ⟨_, (hc 3 (by decide)).trans (hcj 3), World.ownsRow_nil _ _ _ _⟩, ⟨_, (hc 4 (by decide)).trans (hcj 4), World.ownsRow_nil _ _ _ _⟩, by simp, by simp only; omega, by simp only; omega⟩, by simp⟩
  · have := frozen_of_row W1 (w.heap.size + 1 + 1) j _ _ hb2
    simpa [go_sem] using this
  · refine row_keep (hr1.up h.up) (fun b off e hp => ?_)
    obtain ⟨b', off', e', hcell⟩ := hr1 0 hp
    rw [e] at e'
    cases e'
    have hlt := cell_lt hcell
    exact hkeep b (by omega) (by omega)
  · intro b off e hp
    obtain ⟨b', off', e', hcell⟩ := hr1 0 hp
    rw [e] at e'
    cases e'
    have hlt := cell_lt hcell
    omega
  · rw [hs] at hown
    exact own_keep hown (fun k cs hB _ => Below.heap_setCell W1 ⟨w.heap.size + 1 + 1, 2, none⟩ v k (by simp; omega))

/-- The world that the closing meets. -/
structure Ended (w W5 : World) (v : Value) (t : TypeId) (s' : TS) : Prop where
  tp : Tape1 W5 (w.heap.size + 1 + 1) (w.heap.size + 4) s'
  go : W5.heap[w.heap.size]? = some (.cells #[v] t (0, 0))
  ou : W5.heap[w.heap.size + 1]? = some (.cells #[.bool false, .slice none 0 0, .slice none 0 0, .slice none 0 0] 74 (0, 0))
  pt : W5.cell? ⟨w.heap.size + 1 + 1 + 1, 0, none⟩ = some (.pointer (some ⟨w.heap.size + 1 + 1, 0, none⟩))
  be : Below w.heap.size w W5
  sz : w.heap.size + 3 < W5.heap.size
theorem ended {w W4 : World} {v : Value} {t : TypeId} {s' : TS} (hT : Tape1 W4 (w.heap.size + 1 + 1) (w.heap.size + 4) s') (hZ : W4.heap[w.heap.size]? = some (.cells #[v] t (0, 0)))
    (hO : W4.heap[w.heap.size + 1]? = some (.cells #[.bool false, .slice none 0 0, .slice none 0 0, .slice none 0 0] 74 (0, 0)))
    (hP : W4.cell? ⟨w.heap.size + 1 + 1 + 1, 0, none⟩ = some (.pointer (some ⟨w.heap.size + 1 + 1, 0, none⟩))) (hbe : Below w.heap.size w W4) (hsz : w.heap.size + 4 ≤ W4.heap.size) :
    Ended w ((((((W4.setCell ⟨w.heap.size, 0, none⟩ v).setCell ⟨w.heap.size + 1, 0, none⟩ (.bool false)).setCell ⟨w.heap.size + 1, 1, none⟩ (.slice none 0 0)).setCell ⟨w.heap.size + 1, 2, none⟩ (.slice none 0 0)).setCell ⟨w.heap.size + 1, 3, none⟩ (.slice none 0 0)).drew) v t s' := by
  have hk1 : ∀ k, k ≠ w.heap.size → (W4.setCell ⟨w.heap.size, 0, none⟩ v).heap[k]? = W4.heap[k]? := fun k hk => Below.heap_setCell W4 ⟨w.heap.size, 0, none⟩ _ k hk
  have hq1 := (hk1 (w.heap.size + 1) (by omega)).trans hO
  have hs1 : (W4.setCell ⟨w.heap.size, 0, none⟩ v).heap.size = W4.heap.size := by simp
  have e : ((((((W4.setCell ⟨w.heap.size, 0, none⟩ v).setCell ⟨w.heap.size + 1, 0, none⟩ (.bool false)).setCell ⟨w.heap.size + 1, 1, none⟩ (.slice none 0 0)).setCell ⟨w.heap.size + 1, 2, none⟩ (.slice none 0 0)).setCell ⟨w.heap.size + 1, 3, none⟩ (.slice none 0 0)).drew) = (put4 (W4.setCell ⟨w.heap.size, 0, none⟩ v) (w.heap.size + 1) (.bool false) (.slice none 0 0) (.slice none 0 0) (.slice none 0 0)).drew := rfl
  rw [e]
  have hs2 : (put4 (W4.setCell ⟨w.heap.size, 0, none⟩ v) (w.heap.size + 1) (.bool false) (.slice none 0 0) (.slice none 0 0) (.slice none 0 0)).heap.size = W4.heap.size := by simp [put4]
  have hk2 : ∀ k, k ≠ w.heap.size + 1 → (put4 (W4.setCell ⟨w.heap.size, 0, none⟩ v) (w.heap.size + 1) (.bool false) (.slice none 0 0) (.slice none 0 0) (.slice none 0 0)).heap[k]? = (W4.setCell ⟨w.heap.size, 0, none⟩ v).heap[k]? := fun k hk => put4_other _ _ _ _ _ _ _ hk
  have hsame := put4_same (.bool false) (.slice none 0 0) (.slice none 0 0) (.slice none 0 0) hq1
  have hpb := put4_below (W4.setCell ⟨w.heap.size, 0, none⟩ v) (w.heap.size + 1) w.heap.size (.bool false) (.slice none 0 0) (.slice none 0 0) (.slice none 0 0) (by omega)
  clear e
  generalize put4 (W4.setCell ⟨w.heap.size, 0, none⟩ v) (w.heap.size + 1) (.bool false) (.slice none 0 0) (.slice none 0 0) (.slice none 0 0) = W5 at *
  have h1 := hT.1.low (b := w.heap.size) (w' := W4.setCell ⟨w.heap.size, 0, none⟩ v) (by omega) (by omega) (by omega) (fun k _ hne => hk1 k hne)
  have h2 := h1.low (b := w.heap.size + 1) (w' := W5) (by omega) (by omega) (by omega) (fun k _ hne => hk2 k hne)
  exact ⟨⟨h2.drew, hT.2⟩, (hk2 _ (by omega)).trans (one_setCell hZ), hsame, (tcell ((hk2 _ (by omega)).trans (hk1 _ (by omega)))).trans hP, ((hbe.setCell (p := ⟨w.heap.size, 0, none⟩) (Nat.le_refl _) v).trans hpb).drew, by show _ < W5.heap.size; omega⟩

set_option maxRecDepth 10000 in
set_option maxHeartbeats 1000000 in
theorem playI (F : Nat) (cap : Array Value) (p : TS → Option Int × TS) (loc ans : List Int) (A0 A1 : Option Addr) (c0 c1 : Nat) (w : World) (hA0 : A0 = none → c0 = 0) (hl0 : loc.length ≤ 3000) (hl1 : ans.length ≤ 3000)
    (hr0 : Row w A0 loc.length (IVal loc)) (hr1 : Row w A1 ans.length (IVal ans)) (hc0 : loc.length ≤ c0)
    (hcf : ∀ (args : Array Value) (W : World), (callFunc F args).run Try.prog W = .ok (.enter F args) W)
    (hdo : ∀ (W : World) (g B : Nat), Up w W → w.heap.size ≤ g → Tape1 W g B ⟨ans, loc, [], []⟩ → Calls Try.prog F (#[.pointer (some ⟨g, 0, none⟩)] ++ cap) W (TPost encI g B W (p ⟨ans, loc, [], []⟩))) :
    Calls Try.prog 31 #[.func (.func F) #[] cap, .slice A0 loc.length c0, .slice A1 ans.length c1] w fun e w' =>
      ∃ ov, e = .returned (.tuple #[.int .i64 ((p ⟨ans, loc, [], []⟩).1.getD 0), ov]) ∧ OutIs w' ov (p ⟨ans, loc, [], []⟩).1.isSome (p ⟨ans, loc, [], []⟩).2 ∧ Up w w' := by
  have hmf : ∀ (fn : Fn) (first cap : Array Value) (w : World), (Instr.makeFunc fn first cap).run Try.prog w = .ok (.func fn first cap) w := fun _ _ _ _ => rfl
  obtain ⟨r, hr⟩ : ∃ r, p ⟨ans, loc, [], []⟩ = r := ⟨_, rfl⟩
  rw [hr] at hdo ⊢
  obtain ⟨ro, s'⟩ := r
  clear hr
  have HCL := Lib.hid (fun (W : World) (hU : Up w W) => clone_any loc A0 c0 W hA0 (hr0.up hU) (by omega))
  have HBG := Lib.hid (begun w (.int .i64 0) 3 A1 ans.length c1)
  have HBT := Lib.hid (fun (W W1 : World) (v : Value) (h : Begun w W (.int .i64 0) 3 A1 ans.length c1) => begun_tape (W1 := W1) (v := v) h hr1 hl0 hl1)
  have HDO := Lib.hid hdo
  obtain ⟨n0, hn0⟩ : ∃ n, loc.length = n := ⟨_, rfl⟩
  obtain ⟨n1, hn1⟩ : ∃ n, ans.length = n := ⟨_, rfl⟩
  rw [hn0] at hl0 hc0 HCL HBT ⊢
  rw [hn1] at HBG HBT ⊢
  clear hdo hr0 hr1 hn0 hn1 hA0 hl1
  have hi0 : (0 : Int) ≤ (n0 : Int) := by omega
  have hi1 : (n0 : Int) ≤ (c0 : Int) := by omega
  have hi2 : ((32768 : Int) < (n0 : Int)) = False := by simp; omega
  have hmin : min (n0 : Int) 32768 = n0 := by omega
  go_enter_defers Try.func31, Try.ntmps31
  go_wp2_with fail
  obtain ⟨W0, hW0⟩ : ∃ W0, ((((w.alloc (.cells #[.int .i64 0] 3)).alloc (.cells #[.bool false, .slice none 0 0, .slice none 0 0, .slice none 0 0] 74)).alloc
      (.cells #[.int .i64 1, .slice A1 n1 c1, .slice none 0 0, .slice none 0 0, .slice none 0 0] 97)).alloc (.cells #[.pointer (some ⟨w.heap.size + 1 + 1, 0, none⟩)] 44)) = W0 := ⟨_, rfl⟩
  rw [hW0] at HBG ⊢
  clear hW0
  have hd3 : W0.drew.cell? ⟨w.heap.size + 1 + 1 + 1, 0, none⟩ = some (.pointer (some ⟨w.heap.size + 1 + 1, 0, none⟩)) := cell_of_one HBG.out.b3
  have hd2 : W0.drew.cell? ⟨w.heap.size + 1 + 1, 2, none⟩ = some (.slice none 0 0) := cell_of_row W0 _ 2 _ _ _ HBG.out.b2
  have hf2 : W0.drew.frozen? ⟨w.heap.size + 1 + 1, 2, none⟩ = false := frozen_of_row W0 _ 2 _ _ HBG.out.b2
  have hUW : Up w W0.drew := HBG.out.up.drew
  have HD2 := Lib.hid hd2
  have HF2 := Lib.hid hf2
  clear hd2 hf2
  refine wp_region_noPanic ?_
  refine wp_region_held_drew (S := fun w' => w'.cell? ⟨w.heap.size + 1 + 1 + 1, 0, none⟩ = some (.pointer (some ⟨w.heap.size + 1 + 1, 0, none⟩))) (by kernel_rfl) hd3 (fun hH0 => ?_)
  refine wpAnyH_take (i := 0) (v := ?_) rfl (by kernel_rfl) (by kernel_rfl) (by kernel_rfl) (fun _ _ _ h => h) (Or.inl ⟨by kernel_rfl, ?_⟩) hH0 ?_
  rotate_left
  · intro w hSw
    try dsimp only at hSw
    go_simp
    try (with_reducible rfl)
  try simp only [Act.put, List.setIfInBounds_toArray, List.set_cons_zero, List.set_cons_succ]
  refine wpAnyH_take (i := 1) (v := ?_) rfl (by kernel_rfl) (by kernel_rfl) (by kernel_rfl) (fun _ _ _ h => h) (Or.inl ⟨by kernel_rfl, ?_⟩) hH0 ?_
  rotate_left
  · intro w hSw
    try dsimp only at hSw
    go_simp
    try (with_reducible rfl)
  try simp only [Act.put, List.setIfInBounds_toArray, List.set_cons_zero, List.set_cons_succ]
  refine wpAnyH_take (i := 2) (v := ?_) rfl (by kernel_rfl) (by kernel_rfl) (by kernel_rfl) (fun _ _ _ h => h) (Or.inl ⟨by kernel_rfl, ?_⟩) hH0 ?_
  rotate_left
  · intro w hSw
    try dsimp only at hSw
    go_simp
    try (with_reducible rfl)
  try simp only [Act.put, List.setIfInBounds_toArray, List.set_cons_zero, List.set_cons_succ]
  refine wpAnyH_take (i := 3) (v := ?_) rfl (by kernel_rfl) (by kernel_rfl) (by kernel_rfl) (fun _ _ _ h => h) (Or.inl ⟨by kernel_rfl, ?_⟩) hH0 ?_
  rotate_left
  · intro w hSw
    try dsimp only at hSw
    go_simp
    try (with_reducible rfl)
  try simp only [Act.put, List.setIfInBounds_toArray, List.set_cons_zero, List.set_cons_succ]
  refine wpAnyH_take (i := 4) (v := ?_) rfl (by kernel_rfl) (by kernel_rfl) (by kernel_rfl) (fun _ _ _ h => h) (Or.inl ⟨by kernel_rfl, ?_⟩) hH0 ?_
  rotate_left
  · intro w hSw
    try dsimp only at hSw
    go_simp
    try (with_reducible rfl)
  try simp only [Act.put, List.setIfInBounds_toArray, List.set_cons_zero, List.set_cons_succ]
  refine wpAnyH_take (i := 5) (v := ?_) rfl (by kernel_rfl) (by kernel_rfl) (by kernel_rfl) (fun _ _ _ h => h) (Or.inl ⟨by kernel_rfl, ?_⟩) hH0 ?_
  rotate_left
  · intro w hSw
    try dsimp only at hSw
    go_simp
    try (with_reducible rfl)
  try simp only [Act.put, List.setIfInBounds_toArray, List.set_cons_zero, List.set_cons_succ]
  refine wpAnyH_ready (rs := [6]) (by kernel_rfl) (by simp) ?_
  refine AllReadyH.cons rfl (fun K hK => ?_) AllReadyH.nil
  go_simp
  refine (HCL.out W0.drew hUW).mono ?_
  rintro e w1 ⟨v, rfl, h1, h2⟩
  obtain ⟨vA, vc, rfl, _, _⟩ := own_form h1
  have H1 := Lib.hid h1
  have H2 := Lib.hid h2
  have hS1 := (h2.cell (p := ⟨w.heap.size + 1 + 1 + 1, 0, none⟩) (cell_lt hd3)).trans hd3
  have hS2 := (h2.cell (p := ⟨w.heap.size + 1 + 1, 2, none⟩) (cell_lt HD2.out)).trans HD2.out
  have hS3 := (h2.frozen (p := ⟨w.heap.size + 1 + 1, 2, none⟩) (cell_lt HD2.out)).trans HF2.out
  clear h1 h2
  refine hK.out _ _ hS1 (fun hH1 => ?_)
  clear hK K
  try simp only [Act.put, List.setIfInBounds_toArray, List.set_cons_zero, List.set_cons_succ]
  refine wpAnyH_take (i := 7) (v := ?_) rfl (by kernel_rfl) (by kernel_rfl) (by kernel_rfl) (fun _ _ _ h => h) (Or.inl ⟨by kernel_rfl, ?_⟩) hH1 ?_
  rotate_left
  · intro w hSw
    try dsimp only at hSw
    go_simp
    try (with_reducible rfl)
  try simp only [Act.put, List.setIfInBounds_toArray, List.set_cons_zero, List.set_cons_succ]
  refine wpAnyH_take (i := 8) (v := ?_) rfl (by kernel_rfl) (by kernel_rfl) (by kernel_rfl) (fun _ _ _ h => h) (Or.inl ⟨by kernel_rfl, ?_⟩) hH1 ?_
  rotate_left
  · intro w hSw
    try dsimp only at hSw
    go_simp
    try (with_reducible rfl)
  try simp only [Act.put, List.setIfInBounds_toArray, List.set_cons_zero, List.set_cons_succ]
  refine wpAnyH_ready (rs := [9]) (by kernel_rfl) (by simp) ?_
  refine AllReadyH.cons rfl (fun K hK => ?_) AllReadyH.nil
  go_simp
  refine hK.out _ _ ((World.cell?_setCell_other _ _ _ _ (by simp)).trans hS1) (fun hH2 => ?_)
  clear hK K
  try simp only [Act.put, List.setIfInBounds_toArray, List.set_cons_zero, List.set_cons_succ]
  refine wpAnyH_done (by kernel_rfl) ?_ _
  refine NoPanic.normal ?_
  have HT := Lib.hid (HBT.out W0.drew w1 _ (by exact ⟨HBG.out.up.drew, HBG.out.sz, HBG.out.b0, HBG.out.b1, HBG.out.b2, HBG.out.b3⟩) H2.out H1.out)
  have hb0 : (w1.setCell ⟨w.heap.size + 1 + 1, 2, none⟩ (.slice vA n0 vc)).heap[w.heap.size]? = some (.cells #[.int .i64 0] 3 (0, 0)) := (Below.heap_setCell _ _ _ _ (by simp; omega)).trans ((H2.out.block _ (by have := HBG.out.sz; simp; omega)).trans HBG.out.b0)
  have hb1 : (w1.setCell ⟨w.heap.size + 1 + 1, 2, none⟩ (.slice vA n0 vc)).heap[w.heap.size + 1]? = some (.cells #[.bool false, .slice none 0 0, .slice none 0 0, .slice none 0 0] 74 (0, 0)) := (Below.heap_setCell _ _ _ _ (by simp)).trans ((H2.out.block _ (by have := HBG.out.sz; simp; omega)).trans HBG.out.b1)
  have hb3 : (w1.setCell ⟨w.heap.size + 1 + 1, 2, none⟩ (.slice vA n0 vc)).heap[w.heap.size + 1 + 1 + 1]? = some (.cells #[.pointer (some ⟨w.heap.size + 1 + 1, 0, none⟩)] 44 (0, 0)) := (Below.heap_setCell _ _ _ _ (by simp)).trans ((H2.out.block _ (by have := HBG.out.sz; simp; omega)).trans HBG.out.b3)
  have HU2 := Lib.hid (show Up w (w1.setCell ⟨w.heap.size + 1 + 1, 2, none⟩ (.slice vA n0 vc)) from (hUW.trans H2.out).setCell (p := ⟨w.heap.size + 1 + 1, 2, none⟩) (by simp; omega) _)
  generalize w1.setCell ⟨w.heap.size + 1 + 1, 2, none⟩ (.slice vA n0 vc) = W2 at *
  clear hS1 hS2 hS3 hd3 HD2 HF2 H1 H2 HBG HBT hUW HCL
  have HB0 := Lib.hid hb0
  have HB1 := Lib.hid hb1
  have hc3 := cell_of_one hb3
  clear hb0 hb1 hb3
  have hneq : ∀ W : World, (binOp .neq 77 (.func (.func F) #[] cap) .nilFunc).run Try.prog W = .ok (.bool true) W := fun _ => by kernel_rfl
  go_wp2_with fail
  cases ro with
  | some v =>
    refine (HDO.out W2 _ _ HU2.out (by omega) HT.out).mono ?_
    intro e w' q
    obtain ⟨rfl, hT, hK⟩ := q.of_some rfl
    have hz1 := (hK.block w.heap.size (by have := HT.out.1.sz; omega) (by omega) (Far.low (by omega))).trans HB0.out
    have ho1 := (hK.block (w.heap.size + 1) (by have := HT.out.1.sz; omega) (by omega) (Far.low (by omega))).trans HB1.out
    have hp1 := (tcell (o := 0) (hK.block (w.heap.size + 1 + 1 + 1) (by have := HT.out.1.sz; omega) (by omega) (Far.low (by omega)))).trans hc3
    have hbe : Below w.heap.size w w' := Below.trans (show Below w.heap.size w W2 from HU2.out) (hK.below (N := w.heap.size) (by omega) (by omega) (by have := HT.out.1.sz; omega))
    have hsz : w.heap.size + 4 ≤ w'.heap.size := hT.1.sz
    -- the result is stored
    have hk : ∀ k, k ≠ w.heap.size → (w'.setCell ⟨w.heap.size, 0, none⟩ (.int .i64 v)).heap[k]? = w'.heap[k]? := fun k hk => Below.heap_setCell w' ⟨w.heap.size, 0, none⟩ _ k hk
    have hT2 : Tape1 (w'.setCell ⟨w.heap.size, 0, none⟩ (.int .i64 v)) (w.heap.size + 1 + 1) (w.heap.size + 4) s' := ⟨hT.1.low (b := w.heap.size) (by omega) (by omega) (by simp) (fun k _ hne => hk k hne), hT.2⟩
    have hz2 := one_setCell (u := .int .i64 v) hz1
    have ho2 := (hk (w.heap.size + 1) (by omega)).trans ho1
    have hp2 := (tcell (o := 0) (hk (w.heap.size + 1 + 1 + 1) (by omega))).trans hp1
    have hbe2 := hbe.setCell (p := ⟨w.heap.size, 0, none⟩) (Nat.le_refl _) (.int .i64 v)
    have hsz2 : w.heap.size + 4 ≤ (w'.setCell ⟨w.heap.size, 0, none⟩ (.int .i64 v)).heap.size := by simpa using hsz
    have kN := cell_of_one hz1
    have fN := free_of_one hz1
    unfold encI
    clear hk
    have HT2 := Lib.hid hT2
    have HZ2 := Lib.hid hz2
    have HO2 := Lib.hid ho2
    have HP2 := Lib.hid hp2
    have HBE2 := Lib.hid hbe2
    have HSZ2 := Lib.hid hsz2
    clear hT2 hz2 ho2 hp2 hbe2 hsz2 hT hK hz1 ho1 hp1 hbe hsz q
    go_wp2_with fail
    generalize w'.setCell ⟨w.heap.size, 0, none⟩ (.int .i64 v) = W4 at *
    have hl0 : W4.cell? ⟨w.heap.size, 0, none⟩ = some (.int .i64 v) := cell_of_one HZ2.out
    have hm0 : W4.cell? ⟨w.heap.size + 1, 0, none⟩ = some (.bool false) := cell_of_row W4 _ 0 _ _ _ HO2.out
    have hm1 : W4.cell? ⟨w.heap.size + 1, 1, none⟩ = some (.slice none 0 0) := cell_of_row W4 _ 1 _ _ _ HO2.out
    have hm2 : W4.cell? ⟨w.heap.size + 1, 2, none⟩ = some (.slice none 0 0) := cell_of_row W4 _ 2 _ _ _ HO2.out
    have hm3 : W4.cell? ⟨w.heap.size + 1, 3, none⟩ = some (.slice none 0 0) := cell_of_row W4 _ 3 _ _ _ HO2.out
    have hfN : W4.frozen? ⟨w.heap.size, 0, none⟩ = false := free_of_one HZ2.out
    have hf0 : ∀ j, W4.frozen? ⟨w.heap.size + 1, j, none⟩ = false := fun j => frozen_of_row W4 _ j _ _ HO2.out
    have hg0 := hf0 0
    have hg1 := hf0 1
    have hg2 := hf0 2
    have hg3 := hf0 3
    clear hf0 kN fN hc3
    refine wp_region_noPanic ?_
    go_region
    refine NoPanic.normal ?_
    have HE := Lib.hid (ended HT2.out HZ2.out HO2.out HP2.out HBE2.out HSZ2.out)
    clear hl0 hm0 hm1 hm2 hm3 hfN hg0 hg1 hg2 hg3 HT2 HZ2 HO2 HP2 HBE2 HSZ2 HT HU2 HB0 HB1 HDO
    generalize ((((((W4.setCell ⟨w.heap.size, 0, none⟩ (.int .i64 v)).setCell ⟨w.heap.size + 1, 0, none⟩ (.bool false)).setCell ⟨w.heap.size + 1, 1, none⟩ (.slice none 0 0)).setCell ⟨w.heap.size + 1, 2, none⟩ (.slice none 0 0)).setCell ⟨w.heap.size + 1, 3, none⟩ (.slice none 0 0)).drew) = W5 at *
    go_wp2_with fail
    refine leaves_cons (f := 40) (args := #[.pointer (some ⟨w.heap.size + 1 + 1 + 1, 0, none⟩), .pointer (some ⟨w.heap.size, 0, none⟩), .pointer (some ⟨w.heap.size + 1, 0, none⟩)]) (by simp) (by simp [go_sem]) ?_
    refine (door_ok w.heap.size (w.heap.size + 1 + 1) (w.heap.size + 4) (.int .i64 v) s' W5 HE.out.tp (by omega) (by omega) (by omega) HE.out.sz HE.out.pt HE.out.ou).mono ?_
    rintro e u' w9 ⟨rfl, rfl, hout, hN9, hb9⟩
    obtain ⟨A, c, N', d, L, e', hblk, hr1, hr2, hr3, hr4⟩ := hout
    have k0 := cell_of_one (hN9.trans HE.out.go)
    have j0 := cell_of_row w9 _ 0 _ _ _ hblk
    have j1 := cell_of_row w9 _ 1 _ _ _ hblk
    have j2 := cell_of_row w9 _ 2 _ _ _ hblk
    have j3 := cell_of_row w9 _ 3 _ _ _ hblk
    simp only [List.getElem?_toArray, List.getElem?_cons_zero, List.getElem?_cons_succ] at j0 j1 j2 j3
    have HF := Lib.hid (show OutIs w9 (.agg #[.bool true, .slice A s'.acc.length c, .slice N' s'.nts.length d, .slice L (shortL s'.loc).length e']) true s' from ⟨A, c, N', d, L, e', rfl, hr1, hr2, hr3, hr4⟩)
    have HB := Lib.hid (HE.out.be.trans hb9)
    clear hblk hr1 hr2 hr3 hr4 hb9 hN9
    simp [Leaves, settle, results, Try.results31, go_sem, k0, j0, j1, j2, j3]
    exact ⟨HF.out, HB.out⟩
  | none =>
    refine (HDO.out W2 _ _ HU2.out (by omega) HT.out).mono ?_
    intro e w' q
    obtain ⟨rfl, hT, hK⟩ := q.of_none rfl
    have hz1 := (hK.block w.heap.size (by have := HT.out.1.sz; omega) (by omega) (Far.low (by omega))).trans HB0.out
    have ho1 := (hK.block (w.heap.size + 1) (by have := HT.out.1.sz; omega) (by omega) (Far.low (by omega))).trans HB1.out
    have hp1 := (tcell (o := 0) (hK.block (w.heap.size + 1 + 1 + 1) (by have := HT.out.1.sz; omega) (by omega) (Far.low (by omega)))).trans hc3
    have hbe : Below w.heap.size w w' := Below.trans (show Below w.heap.size w W2 from HU2.out) (hK.below (N := w.heap.size) (by omega) (by omega) (by have := HT.out.1.sz; omega))
    have hsz : w.heap.size + 4 ≤ w'.heap.size := hT.sz
    have HT2 := Lib.hid hT
    have HZ2 := Lib.hid hz1
    have HO2 := Lib.hid ho1
    have HP2 := Lib.hid hp1
    have HBE2 := Lib.hid hbe
    have HSZ2 := Lib.hid hsz
    clear hT hK hz1 ho1 hp1 hbe hsz q hc3 HT HU2 HB0 HB1 HDO
    go_wp2_with fail
    refine leaves_cons (f := 40) (args := #[.pointer (some ⟨w.heap.size + 1 + 1 + 1, 0, none⟩), .pointer (some ⟨w.heap.size, 0, none⟩), .pointer (some ⟨w.heap.size + 1, 0, none⟩)]) (by simp) (by simp [go_sem]) ?_
    refine (door_stop w.heap.size (w.heap.size + 1 + 1) (w.heap.size + 4) (.int .i64 0) s' w' HT2.out (by omega) (by omega) (by omega) (by have := HSZ2.out; omega) HP2.out HZ2.out HO2.out).mono ?_
    rintro e u' w9 ⟨rfl, rfl, hout, hN9, hb9⟩
    obtain ⟨A, c, N', d, L, e', hblk, hr1, hr2, hr3, hr4⟩ := hout
    have k0 := cell_of_one hN9
    have j0 := cell_of_row w9 _ 0 _ _ _ hblk
    have j1 := cell_of_row w9 _ 1 _ _ _ hblk
    have j2 := cell_of_row w9 _ 2 _ _ _ hblk
    have j3 := cell_of_row w9 _ 3 _ _ _ hblk
    simp only [List.getElem?_toArray, List.getElem?_cons_zero, List.getElem?_cons_succ] at j0 j1 j2 j3
    have HF := Lib.hid (show OutIs w9 (.agg #[.bool false, .slice A s'.acc.length c, .slice N' s'.nts.length d, .slice L (shortL s'.loc).length e']) false s' from ⟨A, c, N', d, L, e', rfl, hr1, hr2, hr3, hr4⟩)
    have HB := Lib.hid (HBE2.out.trans hb9)
    clear hblk hr1 hr2 hr3 hr4 hb9 hN9
    simp [Leaves, settle, results, Try.results31, go_sem, k0, j0, j1, j2, j3]
    exact ⟨HF.out, HB.out⟩

end Go.Proofs.Ytedkgamecdmjdaa
