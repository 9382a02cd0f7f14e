/-
  What tape.Play defers, at int.
-/
import Derived.Test.YtedkgamecdmjdaaTapeE
import Derived.Deep.RegionHeld3
import Derived.Recover
import Derived.Defers
set_option linter.unusedVariables false
set_option linter.unusedSimpArgs false
namespace Go.Proofs.Ytedkgamecdmjdaa
open Go.RowKit

def AccRow (w : World) (A : Option Addr) (l : List (Int × Int × Int)) : Prop := ∀ k, k < l.length → ∃ b off, A = some ⟨b, off, none⟩ ∧
  w.cell? ⟨b, off + k * 3, none⟩ = some (.int .i64 (l.getD k (0, 0, 0)).1) ∧ w.cell? ⟨b, off + k * 3 + 1, none⟩ = some (.int .i64 (l.getD k (0, 0, 0)).2.1) ∧ w.cell? ⟨b, off + k * 3 + 2, none⟩ = some (.int .i64 (l.getD k (0, 0, 0)).2.2)
def NoteRow (w : World) (A : Option Addr) (l : List (Int × Int)) : Prop := ∀ k, k < l.length → ∃ b off, A = some ⟨b, off, none⟩ ∧
  w.cell? ⟨b, off + k * 2, none⟩ = some (.int .i64 (l.getD k (0, 0)).1) ∧ w.cell? ⟨b, off + k * 2 + 1, none⟩ = some (.int .i64 (l.getD k (0, 0)).2)
/-- Cells that the closing reads. -/
def DoorS (N g : Nat) (A : Option Addr) (m c : Nat) (A' : Option Addr) (m' c' : Nat) (A'' : Option Addr) (m'' c'' : Nat) (w : World) : Prop :=
  w.cell? ⟨N + 1 + 1 + 1, 0, none⟩ = some (.pointer (some ⟨g, 0, none⟩)) ∧ w.cell? ⟨g, 3, none⟩ = some (.slice A m c) ∧ w.cell? ⟨g, 4, none⟩ = some (.slice A' m' c') ∧ w.cell? ⟨g, 2, none⟩ = some (.slice A'' m'' c'')
theorem DoorS.up {N g : Nat} {A : Option Addr} {m c : Nat} {A' : Option Addr} {m' c' : Nat} {A'' : Option Addr} {m'' c'' : Nat} {w w' : World} (h : DoorS N g A m c A' m' c' A'' m'' c'' w) (hU : Up w w') : DoorS N g A m c A' m' c' A'' m'' c'' w' :=
  ⟨(hU.cell (p := ⟨N + 1 + 1 + 1, 0, none⟩) (cell_lt h.1)).trans h.1, (hU.cell (p := ⟨g, 3, none⟩) (cell_lt h.2.1)).trans h.2.1, (hU.cell (p := ⟨g, 4, none⟩) (cell_lt h.2.2.1)).trans h.2.2.1, (hU.cell (p := ⟨g, 2, none⟩) (cell_lt h.2.2.2)).trans h.2.2.2⟩

theorem acells_get : ∀ (l : List (Int × Int × Int)) (k : Nat), k < l.length → (acells l)[k * 3]? = some (.int .i64 (l.getD k (0, 0, 0)).1) ∧ (acells l)[k * 3 + 1]? = some (.int .i64 (l.getD k (0, 0, 0)).2.1) ∧ (acells l)[k * 3 + 2]? = some (.int .i64 (l.getD k (0, 0, 0)).2.2)
  | [], k, h => by simp at h
  | a :: l, 0, h => by simp [acells]
  | a :: l, k + 1, h => by
    have := acells_get l k (by simpa using h)
    have e : acells (a :: l) = .int .i64 a.1 :: .int .i64 a.2.1 :: .int .i64 a.2.2 :: acells l := rfl
    rw [e, Nat.succ_mul]
    simpa using this
theorem ncells_get : ∀ (l : List (Int × Int)) (k : Nat), k < l.length → (ncells l)[k * 2]? = some (.int .i64 (l.getD k (0, 0)).1) ∧ (ncells l)[k * 2 + 1]? = some (.int .i64 (l.getD k (0, 0)).2)
  | [], k, h => by simp at h
  | a :: l, 0, h => by simp [ncells]
  | a :: l, k + 1, h => by
    have := ncells_get l k (by simpa using h)
    have e : ncells (a :: l) = .int .i64 a.1 :: .int .i64 a.2 :: ncells l := rfl
    rw [e, Nat.succ_mul]
    simpa using this
theorem acc_row {w : World} {B e : Nat} {A : Option Addr} {c : Nat} {l : List (Int × Int × Int)} (h : w.ownsRow B e 3 (.slice A l.length c) l.length (acells l)) : AccRow w A l := fun k hk => by
  obtain ⟨h1, h2, h3⟩ := acells_get l k hk
  rcases h.2 with ⟨_, h0⟩ | ⟨g, cap, cur, hv, _⟩
  · omega
  · simp only [Value.slice.injEq] at hv
    obtain ⟨rfl, _, rfl⟩ := hv
    refine ⟨g, 0, rfl, ?_, ?_, ?_⟩
    · rw [Nat.zero_add, h.cellAt _ (by omega)]; exact h1
    · rw [Nat.zero_add, h.cellAt _ (by omega)]; exact h2
    · rw [Nat.zero_add, h.cellAt _ (by omega)]; exact h3
theorem note_row {w : World} {B e : Nat} {A : Option Addr} {c : Nat} {l : List (Int × Int)} (h : w.ownsRow B e 2 (.slice A l.length c) l.length (ncells l)) : NoteRow w A l := fun k hk => by
  obtain ⟨h1, h2⟩ := ncells_get l k hk
  rcases h.2 with ⟨_, h0⟩ | ⟨g, cap, cur, hv, _⟩
  · omega
  · simp only [Value.slice.injEq] at hv
    obtain ⟨rfl, _, rfl⟩ := hv
    refine ⟨g, 0, rfl, ?_, ?_⟩
    · rw [Nat.zero_add, h.cellAt _ (by omega)]; exact h1
    · rw [Nat.zero_add, h.cellAt _ (by omega)]; exact h2
theorem AccRow.keep {w w' : World} {A : Option Addr} {l : List (Int × Int × Int)} (h : AccRow w A l) (hk : ∀ b, b < w.heap.size → (∃ off, A = some ⟨b, off, none⟩) → w'.heap[b]? = w.heap[b]?) : AccRow w' A l := fun k hlt => by
  obtain ⟨b, off, e, h1, h2, h3⟩ := h k hlt
  have := hk b (cell_lt h1) ⟨off, e⟩
  exact ⟨b, off, e, (tcell this).trans h1, (tcell this).trans h2, (tcell this).trans h3⟩
theorem NoteRow.keep {w w' : World} {A : Option Addr} {l : List (Int × Int)} (h : NoteRow w A l) (hk : ∀ b, b < w.heap.size → (∃ off, A = some ⟨b, off, none⟩) → w'.heap[b]? = w.heap[b]?) : NoteRow w' A l := fun k hlt => by
  obtain ⟨b, off, e, h1, h2⟩ := h k hlt
  have := hk b (cell_lt h1) ⟨off, e⟩
  exact ⟨b, off, e, (tcell this).trans h1, (tcell this).trans h2⟩
theorem AccRow.up {w w' : World} {A : Option Addr} {l : List (Int × Int × Int)} (h : AccRow w A l) (hU : Up w w') : AccRow w' A l := h.keep fun b hb _ => hU.block b hb
theorem NoteRow.up {w w' : World} {A : Option Addr} {l : List (Int × Int)} (h : NoteRow w A l) (hU : Up w w') : NoteRow w' A l := h.keep fun b hb _ => hU.block b hb
theorem own_block {w : World} {B e size n c : Nat} {A : Option Addr} {xs : List Value} (h : w.ownsRow B e size (.slice A n c) n xs) : ∀ b off, A = some ⟨b, off, none⟩ → B ≤ b := fun b off hA => by
  rcases h.2 with ⟨hv, _⟩ | ⟨g, cap, cur, hv, hb, _⟩
  · simp only [Value.slice.injEq] at hv
    rw [hv.1] at hA; cases hA
  · simp only [Value.slice.injEq] at hv
    rw [hv.1] at hA; cases hA; exact hb
theorem own_nil0 {w : World} {B e size n c : Nat} {A : Option Addr} {xs : List Value} (h : w.ownsRow B e size (.slice A n c) n xs) : A = none → c = 0 := fun hA => by
  rcases h.2 with ⟨hv, _⟩ | ⟨g, cap, cur, hv, hb, _⟩
  · simp only [Value.slice.injEq] at hv; exact hv.2.2
  · simp only [Value.slice.injEq] at hv
    rw [hv.1] at hA; cases hA

/-- An api.Out in a block. -/
def OutAt (w : World) (b : Nat) (done : Bool) (s : TS) : Prop := ∃ A c N d L e, w.heap[b]? = some (.cells #[.bool done, .slice A s.acc.length c, .slice N s.nts.length d, .slice L (shortL s.loc).length e] 74 (0, 0)) ∧
  AccRow w A s.acc ∧ NoteRow w N s.nts ∧ Row w L (shortL s.loc).length (IVal (shortL s.loc)) ∧ (L = none → e = 0)

/-- The world behind a store of four cells into a block. -/
def put4 (w : World) (b : Nat) (v0 v1 v2 v3 : Value) : World := (((w.setCell ⟨b, 0, none⟩ v0).setCell ⟨b, 1, none⟩ v1).setCell ⟨b, 2, none⟩ v2).setCell ⟨b, 3, none⟩ v3
theorem put4_same {w : World} {b : Nat} {t : TypeId} {x0 x1 x2 x3 : Value} (v0 v1 v2 v3 : Value) (h : w.heap[b]? = some (.cells #[x0, x1, x2, x3] t (0, 0))) : (put4 w b v0 v1 v2 v3).heap[b]? = some (.cells #[v0, v1, v2, v3] t (0, 0)) := by
  unfold put4
  rw [heap_setCell_same _ _ _ _ _ _ (heap_setCell_same _ _ _ _ _ _ (heap_setCell_same _ _ _ _ _ _ (heap_setCell_same _ _ _ _ _ _ h)))]
  rfl
theorem put4_other (w : World) (b k : Nat) (v0 v1 v2 v3 : Value) (h : k ≠ b) : (put4 w b v0 v1 v2 v3).heap[k]? = w.heap[k]? := by
  unfold put4
  rw [Below.heap_setCell _ _ _ _ h, Below.heap_setCell _ _ _ _ h, Below.heap_setCell _ _ _ _ h, Below.heap_setCell _ _ _ _ h]
theorem put4_below (w : World) (b N : Nat) (v0 v1 v2 v3 : Value) (h : N ≤ b) : Below N w (put4 w b v0 v1 v2 v3) :=
  ((((Below.refl N w).setCell (p := ⟨b, 0, none⟩) h _).setCell (p := ⟨b, 1, none⟩) h _).setCell (p := ⟨b, 2, none⟩) h _).setCell (p := ⟨b, 3, none⟩) h _

/-- What the closing leaves. -/
theorem door_out {w W1 W2 : World} {N g B : Nat} {s : TS} {done : Bool} {A A' L : Option Addr} {c c' e : Nat} {x0 x1 x2 x3 : Value} (hU : Up W1 W2) (hB : N + 3 < B) (hBs : B ≤ W1.heap.size)
    (h1 : W1.ownsRow B 55 3 (.slice A s.acc.length c) s.acc.length (acells s.acc)) (h2 : W1.ownsRow B 79 2 (.slice A' s.nts.length c') s.nts.length (ncells s.nts))
    (h3 : W2.ownsRow W1.heap.size 3 1 (.slice L (shortL s.loc).length e) (shortL s.loc).length (icells (shortL s.loc))) (hb : W1.heap[N + 1]? = some (.cells #[x0, x1, x2, x3] 74 (0, 0))) (hN : W1.heap[N]? = w.heap[N]?) (hbe : Below N w W1) :
    OutAt (put4 W2 (N + 1) (.bool done) (.slice A s.acc.length c) (.slice A' s.nts.length c') (.slice L (shortL s.loc).length e)) (N + 1) done s ∧
      (put4 W2 (N + 1) (.bool done) (.slice A s.acc.length c) (.slice A' s.nts.length c') (.slice L (shortL s.loc).length e)).heap[N]? = w.heap[N]? ∧
      Below N w (put4 W2 (N + 1) (.bool done) (.slice A s.acc.length c) (.slice A' s.nts.length c') (.slice L (shortL s.loc).length e)) := by
  have hb2 := (hU.block (N + 1) (by omega)).trans hb
  refine ⟨⟨A, c, A', c', L, e, put4_same _ _ _ _ hb2, ?_, ?_, ?_, own_nil0 h3⟩, ?_, ?_⟩
  · exact ((acc_row h1).up hU).keep fun b _ ⟨off, ho⟩ => put4_other _ _ _ _ _ _ _ (by have := own_block h1 b off ho; omega)
  · exact ((note_row h2).up hU).keep fun b _ ⟨off, ho⟩ => put4_other _ _ _ _ _ _ _ (by have := own_block h2 b off ho; omega)
  · obtain ⟨A1, c1, hA, hrow, _⟩ := own_row (f := IVal (shortL s.loc)) h3 (fun k hk => iVal_map hk)
    simp only [Value.slice.injEq] at hA
    obtain ⟨rfl, _, _⟩ := hA
    exact row_keep hrow fun b off ho _ => put4_other _ _ _ _ _ _ _ (by have := own_block h3 b off ho; omega)
  · exact (put4_other _ _ _ _ _ _ _ (by omega)).trans ((hU.block N (by omega)).trans hN)
  · exact (hbe.trans (hU.mono (by omega))).trans (put4_below _ _ _ _ _ _ _ (by omega))

set_option maxRecDepth 10000 in
set_option maxHeartbeats 2000000 in
theorem door_ok (N g B : Nat) (z : Value) (s : TS) (w : World) (h : Tape1 w g B s) (hN : N + 1 < g) (hgB : N + 3 < B) (hg3 : g ≠ N + 1 + 1 + 1) (hNs : N + 3 < w.heap.size)
    (hp : w.cell? ⟨N + 1 + 1 + 1, 0, none⟩ = some (.pointer (some ⟨g, 0, none⟩))) (ho : w.heap[N + 1]? = some (.cells #[.bool false, .slice none 0 0, .slice none 0 0, .slice none 0 0] 74 (0, 0))) :
    CallsD Try.prog 40 #[.pointer (some ⟨N + 1 + 1 + 1, 0, none⟩), .pointer (some ⟨N, 0, none⟩), .pointer (some ⟨N + 1, 0, none⟩)] .returning w fun e u' w' =>
      e = .returned (.tuple #[]) ∧ u' = .returning ∧ OutAt w' (N + 1) true s ∧ w'.heap[N]? = w.heap[N]? ∧ Below N w w' := by
  have c0 := h.1.c0
  have f0 := h.1.fz 0
  have HT := Lib.hid (h.1.state 0)
  have HK := Lib.hid ((TK.refl g B w).setCell (j := 0) (.int .i64 0))
  have hb1 := (Below.heap_setCell w ⟨g, 0, none⟩ (.int .i64 0) (N + 1) (by simp; omega)).trans ho
  have hbN := Below.heap_setCell w ⟨g, 0, none⟩ (.int .i64 0) N (by simp; omega)
  have HBE := Lib.hid ((Below.refl N w).setCell (p := ⟨g, 0, none⟩) (by simp; omega) (.int .i64 0))
  have hs1 : (w.setCell ⟨g, 0, none⟩ (.int .i64 0)).heap.size = w.heap.size := by simp
  have HB1 := Lib.hid hb1
  have HBN := Lib.hid hbN
  have HS1 := Lib.hid hs1
  clear hb1 hbN hs1
  have hp1 := (World.cell?_setCell_other w ⟨g, 0, none⟩ ⟨N + 1 + 1 + 1, 0, none⟩ (.int .i64 0) (by simp <;> omega)).trans hp
  refine callsD_of_wpS Try.func40 rfl fun c₀ cs hu => ?_
  simp only [Try.ntmps40, List.size_toArray, List.length_cons, List.length_nil, Nat.reduceAdd, Nat.reduceSub, Array.replicate_succ, Array.replicate_zero, List.push_toArray, List.append_toArray, List.nil_append, List.cons_append]
  apply wpS_seq
  apply wpS_region
  simp [wpOpsS, go_sem, recoverD, hu, Exit.thenS, hp, c0]
  apply wpS_seq
  apply wpS_region
  simp [wpOpsS, go_sem, recoverD, hu, Exit.thenS, hp, c0, f0]
  generalize w.setCell ⟨g, 0, none⟩ (.int .i64 0) = W1 at *
  apply wpS_seq
  apply wpS_seq
  apply wpS_region
  simp [wpOpsS, go_sem, recoverD, hu, Exit.thenS]
  apply wpS_seq
  apply wpS_region
  simp [wpOpsS, go_sem, recoverD, hu, Exit.thenS]
  refine wpS_cond (t := false) rfl ?_
  simp only [Bool.false_eq_true, if_false]
  refine wpS_of_wp (wp_skip ?_)
  show Code.wpS _ _ _ _ _ _
  refine wpS_of_wp ?_
  go_wp2_with fail
  obtain ⟨vA, hcA, hoA⟩ := HT.out.acc
  obtain ⟨A, cA, rfl, hA1, hA2⟩ := own_form hoA
  obtain ⟨vN, hcN, hoN⟩ := HT.out.nts
  obtain ⟨A', cN, rfl, hN1, hN2⟩ := own_form hoN
  obtain ⟨vL, hcL, hoL⟩ := HT.out.loc
  obtain ⟨A'', cL, rfl, hL1, hL2⟩ := own_form hoL
  have HSH := Lib.hid (fun (W : World) (hU : Up W1 W) => by
    obtain ⟨A1, c1, hA, hrow, _⟩ := own_row (f := IVal s.loc) hoL (fun k hk => iVal_map hk)
    simp only [Value.slice.injEq] at hA
    obtain ⟨rfl, _, _⟩ := hA
    exact short_any s.loc A'' cL W (own_nil0 hoL) (hrow.up hU) (by have := HT.out.ll; omega) hL1)
  have HO := Lib.hid (fun (W2 : World) (L : Option Addr) (e : Nat) (hU : Up W1.drew W2) h3 => door_out (w := w) (W1 := W1.drew) (W2 := W2) (N := N) (g := g) (done := true) (L := L) (e := e) hU hgB HT.out.sz hoA hoN h3 HB1.out HBN.out HBE.out.drew)
  have hS0 : DoorS N g A s.acc.length cA A' s.nts.length cN A'' s.loc.length cL W1.drew := ⟨hp1, hcA, hcN, hcL⟩
  have HU1 := Lib.hid (Up.refl W1).drew
  have HSZ := Lib.hid (show N + 1 < W1.heap.size by have := HS1.out; omega)
  have HD := Lib.hid hS0
  obtain ⟨n1, hn1⟩ : ∃ n, s.acc.length = n := ⟨_, rfl⟩
  obtain ⟨n2, hn2⟩ : ∃ n, s.nts.length = n := ⟨_, rfl⟩
  obtain ⟨n3, hn3⟩ : ∃ n, s.loc.length = n := ⟨_, rfl⟩
  rw [hn1, hn2, hn3] at hS0 HD
  rw [hn1, hn2] at HO
  rw [hn3] at HSH
  clear hcA hcN hcL hoA hoN hoL hA1 hA2 hN1 hN2 hL1 hL2 h c0 f0 hp ho hn1 hn2 hn3
  refine wp_region_noPanic ?_
  refine wp_region_held_drew (S := fun w => w.cell? ⟨N + 1 + 1 + 1, 0, none⟩ = some (.pointer (some ⟨g, 0, none⟩)) ∧ w.cell? ⟨g, 3, none⟩ = some (.slice A n1 cA) ∧ w.cell? ⟨g, 4, none⟩ = some (.slice A' n2 cN) ∧ w.cell? ⟨g, 2, none⟩ = some (.slice A'' n3 cL)) (by kernel_rfl) hS0 (fun hH0 => ?_)
  clear hS0
  refine wpAnyH_take (i := 0) (v := ?_) rfl (by kernel_rfl) (by kernel_rfl) (by kernel_rfl) (fun _ _ _ h => h) (Or.inl ⟨by kernel_rfl, ?_⟩) hH0 ?_
  rotate_left
  · intro w hSw
    try dsimp only at hSw
    go_simp
    try (with_reducible rfl)
  try simp only [Act.put, List.setIfInBounds_toArray, List.set_cons_zero, List.set_cons_succ]
  refine wpAnyH_take (i := 1) (v := ?_) rfl (by kernel_rfl) (by kernel_rfl) (by kernel_rfl) (fun _ _ _ h => h) (Or.inl ⟨by kernel_rfl, ?_⟩) hH0 ?_
  rotate_left
  · intro w hSw
    try dsimp only at hSw
    go_simp
    try (with_reducible rfl)
  try simp only [Act.put, List.setIfInBounds_toArray, List.set_cons_zero, List.set_cons_succ]
  refine wpAnyH_take (i := 2) (v := ?_) rfl (by kernel_rfl) (by kernel_rfl) (by kernel_rfl) (fun _ _ _ h => h) (Or.inl ⟨by kernel_rfl, ?_⟩) hH0 ?_
  rotate_left
  · intro w hSw
    try dsimp only at hSw
    go_simp
    try (with_reducible rfl)
  try simp only [Act.put, List.setIfInBounds_toArray, List.set_cons_zero, List.set_cons_succ]
  refine wpAnyH_take (i := 3) (v := ?_) rfl (by kernel_rfl) (by kernel_rfl) (by kernel_rfl) (fun _ _ _ h => h) (Or.inl ⟨by kernel_rfl, ?_⟩) hH0 ?_
  rotate_left
  · intro w hSw
    try dsimp only at hSw
    go_simp
    try (with_reducible rfl)
  try simp only [Act.put, List.setIfInBounds_toArray, List.set_cons_zero, List.set_cons_succ]
  refine wpAnyH_take (i := 4) (v := ?_) rfl (by kernel_rfl) (by kernel_rfl) (by kernel_rfl) (fun _ _ _ h => h) (Or.inl ⟨by kernel_rfl, ?_⟩) hH0 ?_
  rotate_left
  · intro w hSw
    try dsimp only at hSw
    go_simp
    try (with_reducible rfl)
  try simp only [Act.put, List.setIfInBounds_toArray, List.set_cons_zero, List.set_cons_succ]
  refine wpAnyH_take (i := 5) (v := ?_) rfl (by kernel_rfl) (by kernel_rfl) (by kernel_rfl) (fun _ _ _ h => h) (Or.inl ⟨by kernel_rfl, ?_⟩) hH0 ?_
  rotate_left
  · intro w hSw
    try dsimp only at hSw
    go_simp
    try (with_reducible rfl)
  try simp only [Act.put, List.setIfInBounds_toArray, List.set_cons_zero, List.set_cons_succ]
  refine wpAnyH_take (i := 6) (v := ?_) rfl (by kernel_rfl) (by kernel_rfl) (by kernel_rfl) (fun _ _ _ h => h) (Or.inl ⟨by kernel_rfl, ?_⟩) hH0 ?_
  rotate_left
  · intro w hSw
    try dsimp only at hSw
    go_simp
    try (with_reducible rfl)
  try simp only [Act.put, List.setIfInBounds_toArray, List.set_cons_zero, List.set_cons_succ]
  refine wpAnyH_take (i := 7) (v := ?_) rfl (by kernel_rfl) (by kernel_rfl) (by kernel_rfl) (fun _ _ _ h => h) (Or.inl ⟨by kernel_rfl, ?_⟩) hH0 ?_
  rotate_left
  · intro w hSw
    try dsimp only at hSw
    go_simp
    try (with_reducible rfl)
  try simp only [Act.put, List.setIfInBounds_toArray, List.set_cons_zero, List.set_cons_succ]
  refine wpAnyH_take (i := 8) (v := ?_) rfl (by kernel_rfl) (by kernel_rfl) (by kernel_rfl) (fun _ _ _ h => h) (Or.inl ⟨by kernel_rfl, ?_⟩) hH0 ?_
  rotate_left
  · intro w hSw
    try dsimp only at hSw
    go_simp
    try (with_reducible rfl)
  try simp only [Act.put, List.setIfInBounds_toArray, List.set_cons_zero, List.set_cons_succ]
  refine wpAnyH_take (i := 9) (v := ?_) rfl (by kernel_rfl) (by kernel_rfl) (by kernel_rfl) (fun _ _ _ h => h) (Or.inl ⟨by kernel_rfl, ?_⟩) hH0 ?_
  rotate_left
  · intro w hSw
    try dsimp only at hSw
    go_simp
    try (with_reducible rfl)
  try simp only [Act.put, List.setIfInBounds_toArray, List.set_cons_zero, List.set_cons_succ]
  refine wpAnyH_take (i := 10) (v := ?_) rfl (by kernel_rfl) (by kernel_rfl) (by kernel_rfl) (fun _ _ _ h => h) (Or.inl ⟨by kernel_rfl, ?_⟩) hH0 ?_
  rotate_left
  · intro w hSw
    try dsimp only at hSw
    go_simp
    try (with_reducible rfl)
  try simp only [Act.put, List.setIfInBounds_toArray, List.set_cons_zero, List.set_cons_succ]
  refine wpAnyH_take (i := 11) (v := ?_) rfl (by kernel_rfl) (by kernel_rfl) (by kernel_rfl) (fun _ _ _ h => h) (Or.inl ⟨by kernel_rfl, ?_⟩) hH0 ?_
  rotate_left
  · intro w hSw
    try dsimp only at hSw
    go_simp
    try (with_reducible rfl)
  try simp only [Act.put, List.setIfInBounds_toArray, List.set_cons_zero, List.set_cons_succ]
  refine wpAnyH_take (i := 12) (v := ?_) rfl (by kernel_rfl) (by kernel_rfl) (by kernel_rfl) (fun _ _ _ h => h) (Or.inl ⟨by kernel_rfl, ?_⟩) hH0 ?_
  rotate_left
  · intro w hSw
    try dsimp only at hSw
    go_simp
    try (with_reducible rfl)
  try simp only [Act.put, List.setIfInBounds_toArray, List.set_cons_zero, List.set_cons_succ]
  refine wpAnyH_ready (rs := [13]) (by kernel_rfl) (by simp) ?_
  refine AllReadyH.cons rfl (fun K hK => ?_) AllReadyH.nil
  go_simp
  refine (HSH.out W1.drew HU1.out).mono ?_
  rintro e W2 ⟨v, rfl, h1, h2⟩
  obtain ⟨L, eL, rfl, _, _⟩ := own_form h1
  have HQ := Lib.hid (HO.out W2 L eL h2 h1)
  have hH1 := HD.out.up h2
  have hb2 := Lib.hid ((h2.block (N + 1) (by exact HSZ.out)).trans (show W1.drew.heap[N + 1]? = _ from HB1.out))
  generalize (shortL s.loc).length = n4 at *
  clear h1 h2 HO HSH hH0 HD
  refine hK.out _ _ hH1 (fun hH2 => ?_)
  clear hK K
  try simp only [Act.put, List.setIfInBounds_toArray, List.set_cons_zero, List.set_cons_succ]
  clear hH1
  refine wpAnyH_take (i := 14) (v := ?_) rfl (by kernel_rfl) (by kernel_rfl) (by kernel_rfl) (fun _ _ _ h => h) (Or.inl ⟨by kernel_rfl, ?_⟩) hH2 ?_
  rotate_left
  · intro w hSw
    try dsimp only at hSw
    go_simp
    try (with_reducible rfl)
  try simp only [Act.put, List.setIfInBounds_toArray, List.set_cons_zero, List.set_cons_succ]
  have k0 := cell_of_row W2 (N + 1) 0 _ _ _ hb2.out
  have k1 := cell_of_row W2 (N + 1) 1 _ _ _ hb2.out
  have k2 := cell_of_row W2 (N + 1) 2 _ _ _ hb2.out
  have k3 := cell_of_row W2 (N + 1) 3 _ _ _ hb2.out
  simp only [List.getElem?_toArray, List.getElem?_cons_zero, List.getElem?_cons_succ] at k0 k1 k2 k3
  have f0 := frozen_of_row W2 (N + 1) 0 _ _ hb2.out
  have f1 := frozen_of_row W2 (N + 1) 1 _ _ hb2.out
  have f2 := frozen_of_row W2 (N + 1) 2 _ _ hb2.out
  have f3 := frozen_of_row W2 (N + 1) 3 _ _ hb2.out
  refine wpAnyH_ready (rs := [15]) (by kernel_rfl) (by simp) ?_
  refine AllReadyH.cons rfl (fun K hK => ?_) AllReadyH.nil
  go_simp
  have hH3 : (put4 W2 (N + 1) (.bool true) (.slice A n1 cA) (.slice A' n2 cN) (.slice L n4 eL)).cell? ⟨N + 1 + 1 + 1, 0, none⟩ = some (.pointer (some ⟨g, 0, none⟩)) ∧ (put4 W2 (N + 1) (.bool true) (.slice A n1 cA) (.slice A' n2 cN) (.slice L n4 eL)).cell? ⟨g, 3, none⟩ = some (.slice A n1 cA) ∧
      (put4 W2 (N + 1) (.bool true) (.slice A n1 cA) (.slice A' n2 cN) (.slice L n4 eL)).cell? ⟨g, 4, none⟩ = some (.slice A' n2 cN) ∧ (put4 W2 (N + 1) (.bool true) (.slice A n1 cA) (.slice A' n2 cN) (.slice L n4 eL)).cell? ⟨g, 2, none⟩ = some (.slice A'' n3 cL) :=
    ⟨(tcell (put4_other _ _ _ _ _ _ _ (by omega))).trans hH2.1, (tcell (put4_other _ _ _ _ _ _ _ (by omega))).trans hH2.2.1, (tcell (put4_other _ _ _ _ _ _ _ (by omega))).trans hH2.2.2.1, (tcell (put4_other _ _ _ _ _ _ _ (by omega))).trans hH2.2.2.2⟩
  refine hK.out _ _ hH3 (fun hH4 => ?_)
  clear hK K
  try simp only [Act.put, List.setIfInBounds_toArray, List.set_cons_zero, List.set_cons_succ]
  refine wpAnyH_done (by kernel_rfl) ?_ _
  refine NoPanic.normal ?_
  refine ⟨rfl, .returning, by cases c₀; simp_all, .tuple #[], ?_, rfl, rfl, HQ.out.1, HQ.out.2.1, HQ.out.2.2⟩
  simp [results, Try.results40]

end Go.Proofs.Ytedkgamecdmjdaa
