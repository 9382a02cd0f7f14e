/-
  What tape.Play defers, at int: an operation that stopped.
-/
import Derived.Test.YtedkgamecdmjdaaTapeG
import Derived.Lib.Builder
set_option linter.unusedVariables false
set_option linter.unusedSimpArgs false
namespace Go.Proofs.Ytedkgamecdmjdaa
open Go.RowKit

theorem infoMem : Try.prog.info? 97 = some Try.t97 := by kernel_rfl
/-- What the closing leaves, the result's cell known. -/
theorem door_out2 {w W1 W2 : World} {N g B : Nat} {s : TS} {done : Bool} {A A' L : Option Addr} {c c' e : Nat} {x0 x1 x2 x3 : Value} {o : Obj} (hU : Up W1 W2) (hB : N + 3 < B) (hBs : B ≤ W1.heap.size)
    (h1 : W1.ownsRow B 55 3 (.slice A s.acc.length c) s.acc.length (acells s.acc)) (h2 : W1.ownsRow B 79 2 (.slice A' s.nts.length c') s.nts.length (ncells s.nts))
    (h3 : W2.ownsRow W1.heap.size 3 1 (.slice L (shortL s.loc).length e) (shortL s.loc).length (icells (shortL s.loc))) (hb : W1.heap[N + 1]? = some (.cells #[x0, x1, x2, x3] 74 (0, 0))) (hN : W1.heap[N]? = some o) (hbe : Below N w W1) :
    OutAt (put4 W2 (N + 1) (.bool done) (.slice A s.acc.length c) (.slice A' s.nts.length c') (.slice L (shortL s.loc).length e)) (N + 1) done s ∧
      (put4 W2 (N + 1) (.bool done) (.slice A s.acc.length c) (.slice A' s.nts.length c') (.slice L (shortL s.loc).length e)).heap[N]? = some o ∧
      Below N w (put4 W2 (N + 1) (.bool done) (.slice A s.acc.length c) (.slice A' s.nts.length c') (.slice L (shortL s.loc).length e)) := by
  obtain ⟨k1, k2, _⟩ := door_out (w := W1) (done := done) hU hB hBs h1 h2 h3 hb rfl (Below.refl N W1) (g := g)
  refine ⟨k1, k2.trans hN, (hbe.trans (hU.mono (by omega))).trans (put4_below _ _ _ _ _ _ _ (by omega))⟩

set_option maxRecDepth 10000 in
set_option maxHeartbeats 2000000 in
theorem door_stop (N g B : Nat) (z : Value) (s : TS) (w : World) (h : TapeIs w g B 2 s) (hN : N + 1 < g) (hgB : N + 3 < B) (hg3 : g ≠ N + 1 + 1 + 1) (hNs : N + 3 < w.heap.size)
    (hp : w.cell? ⟨N + 1 + 1 + 1, 0, none⟩ = some (.pointer (some ⟨g, 0, none⟩))) (hz : w.heap[N]? = some (.cells #[.int .i64 0] 3 (0, 0))) (ho : w.heap[N + 1]? = some (.cells #[.bool false, .slice none 0 0, .slice none 0 0, .slice none 0 0] 74 (0, 0))) :
    CallsD Try.prog 40 #[.pointer (some ⟨N + 1 + 1 + 1, 0, none⟩), .pointer (some ⟨N, 0, none⟩), .pointer (some ⟨N + 1, 0, none⟩)] (.panicking (stopC g)) w fun e u' w' =>
      e = .returned (.tuple #[]) ∧ u' = .panicking [{ v := .iface 99 (.agg #[.pointer (some ⟨g, 0, none⟩)]), recovered := true }] ∧ OutAt w' (N + 1) false s ∧ w'.heap[N]? = some (.cells #[.int .i64 0] 3 (0, 0)) ∧ Below N w w' := by
  have hta : ∀ (x : Value) (W : World), (Instr.typeAssert (.iface 99 x) 20 99 true).run Try.prog W = .ok (.tuple #[x, .bool true]) W := fun _ _ => by kernel_rfl
  have hnp : ∀ (a : Addr) (W : World), (binOp .neq 44 (.pointer (some a)) (.pointer (some a))).run Try.prog W = .ok (.bool false) W := fun a W => Lib.run_neq_ptr_same (P := Try.prog) (te := 97) W a Try.underlying44 infoMem
  have c0 := h.c0
  have f0 := h.fz 0
  have HT := Lib.hid (h.state 0)
  have HK := Lib.hid ((TK.refl g B w).setCell (j := 0) (.int .i64 0))
  have hb1 := (Below.heap_setCell w ⟨g, 0, none⟩ (.int .i64 0) (N + 1) (by simp; omega)).trans ho
  have hbN := Below.heap_setCell w ⟨g, 0, none⟩ (.int .i64 0) N (by simp; omega)
  have HBE := Lib.hid ((Below.refl N w).setCell (p := ⟨g, 0, none⟩) (by simp; omega) (.int .i64 0))
  have hs1 : (w.setCell ⟨g, 0, none⟩ (.int .i64 0)).heap.size = w.heap.size := by simp
  have HB1 := Lib.hid hb1
  have HBN := Lib.hid hbN
  have HS1 := Lib.hid hs1
  clear hb1 hbN hs1
  have hp1 := (World.cell?_setCell_other w ⟨g, 0, none⟩ ⟨N + 1 + 1 + 1, 0, none⟩ (.int .i64 0) (by simp <;> omega)).trans hp
  refine callsD_of_wpS Try.func40 rfl fun c₀ cs hu => ?_
  simp only [Try.ntmps40, List.size_toArray, List.length_cons, List.length_nil, Nat.reduceAdd, Nat.reduceSub, Array.replicate_succ, Array.replicate_zero, List.push_toArray, List.append_toArray, List.nil_append, List.cons_append]
  apply wpS_seq
  apply wpS_region
  simp [wpOpsS, go_sem, recoverD, hu, Exit.thenS, hp, c0]
  apply wpS_seq
  apply wpS_region
  simp [wpOpsS, go_sem, recoverD, hu, Exit.thenS, hp, c0, f0]
  generalize w.setCell ⟨g, 0, none⟩ (.int .i64 0) = W1 at *
  apply wpS_seq
  apply wpS_seq
  apply wpS_region
  simp [wpOpsS, go_sem, recoverD, hu, Exit.thenS, stopC]
  apply wpS_seq
  apply wpS_region
  simp [wpOpsS, go_sem, recoverD, hu, Exit.thenS]
  refine wpS_cond (t := true) rfl ?_
  simp only [if_true]
  refine wpS_of_wp ?_
  have hpl : N + 1 + 1 + 1 < W1.heap.size := by have := HS1.out; omega
  go_wp2_with fail
  obtain ⟨vA, hcA0, hoA0⟩ := HT.out.acc
  obtain ⟨A, cA, rfl, hA1, hA2⟩ := own_form hoA0
  obtain ⟨vN, hcN0, hoN0⟩ := HT.out.nts
  obtain ⟨A', cN, rfl, hN1, hN2⟩ := own_form hoN0
  obtain ⟨vL, hcL0, hoL0⟩ := HT.out.loc
  obtain ⟨A'', cL, rfl, hL1, hL2⟩ := own_form hoL0
  have HLL := Lib.hid HT.out.ll
  have HSZB := Lib.hid HT.out.sz
  have hU2 : Up W1 (W1.alloc (.cells #[.pointer (some ⟨g, 0, none⟩)] 99)) := (Up.refl W1).alloc _
  have hcA1 := (hU2.cell (p := ⟨g, 3, none⟩) (cell_lt hcA0)).trans hcA0
  have hcN1 := (hU2.cell (p := ⟨g, 4, none⟩) (cell_lt hcN0)).trans hcN0
  have hcL1 := (hU2.cell (p := ⟨g, 2, none⟩) (cell_lt hcL0)).trans hcL0
  have hp2 := (hU2.cell (p := ⟨N + 1 + 1 + 1, 0, none⟩) hpl).trans hp1
  have hoA1 := own_up hoA0 hU2
  have hoN1 := own_up hoN0 hU2
  have hoL1 := own_up hoL0 hU2
  have hzN := (hU2.block N (by omega)).trans (HBN.out.trans hz)
  have hb2 := (hU2.block (N + 1) (by omega)).trans HB1.out
  have hbe2 := HBE.out.trans (hU2.mono (B' := N) (by omega))
  have hs2 := hU2.size
  generalize W1.alloc (.cells #[.pointer (some ⟨g, 0, none⟩)] 99) = W3 at *
  have kN := cell_of_one hzN
  have fN := free_of_one hzN
  have HoA1 := Lib.hid hoA1
  have HoN1 := Lib.hid hoN1
  have HoL1 := Lib.hid hoL1
  have HzN := Lib.hid hzN
  have Hb2 := Lib.hid hb2
  have Hbe2 := Lib.hid hbe2
  have Hs2 := Lib.hid hs2
  have Hp2 := Lib.hid hp2
  have HcA1 := Lib.hid hcA1
  have HcN1 := Lib.hid hcN1
  have HcL1 := Lib.hid hcL1
  have HPL := Lib.hid hpl
  clear hcA0 hcN0 hcL0 hoA0 hoN0 hoL0 hU2 hoA1 hoN1 hoL1 hzN hb2 hbe2 HT HK HBE HB1 HBN hs2 c0 f0 h hp ho hp1 hp2 hcA1 hcN1 hcL1 hz hpl hta
  show Code.wpS _ _ _ _ _ _
  refine wpS_of_wp ?_
  go_wp2_with fail
  have hk : ∀ k, k ≠ N → (W3.setCell ⟨N, 0, none⟩ (.int .i64 0)).heap[k]? = W3.heap[k]? := fun k hk => Below.heap_setCell W3 ⟨N, 0, none⟩ _ k hk
  have hcA := (tcell (o := 3) (hk g (by omega))).trans HcA1.out
  have hcN := (tcell (o := 4) (hk g (by omega))).trans HcN1.out
  have hcL := (tcell (o := 2) (hk g (by omega))).trans HcL1.out
  have hp1 := (tcell (o := 0) (hk (N + 1 + 1 + 1) (by omega))).trans Hp2.out
  have hoA := own_keep HoA1.out (fun k cs hB _ => hk k (by omega))
  have hoN := own_keep HoN1.out (fun k cs hB _ => hk k (by omega))
  have hoL := own_keep HoL1.out (fun k cs hB _ => hk k (by omega))
  have HB1 := Lib.hid ((hk (N + 1) (by omega)).trans Hb2.out)
  have HBN := Lib.hid (one_setCell (u := .int .i64 0) HzN.out)
  have HBE := Lib.hid (Hbe2.out.setCell (p := ⟨N, 0, none⟩) (Nat.le_refl _) (.int .i64 0))
  have hsz : B ≤ (W3.setCell ⟨N, 0, none⟩ (.int .i64 0)).heap.size := by have := HSZB.out; have := Hs2.out; simp; omega
  have HS1 := Lib.hid (show N + 3 < (W3.setCell ⟨N, 0, none⟩ (.int .i64 0)).heap.size by have := HPL.out; have := Hs2.out; simp; omega)
  generalize W3.setCell ⟨N, 0, none⟩ (.int .i64 0) = W1 at *
  clear hk Hp2 HoA1 HoN1 HoL1 HzN Hb2 Hbe2 Hs2 HSZB kN fN HcA1 HcN1 HcL1 HPL
  have HSH := Lib.hid (fun (W : World) (hU : Up W1 W) => by
    obtain ⟨A1, c1, hA, hrow, _⟩ := own_row (f := IVal s.loc) hoL (fun k hk => iVal_map hk)
    simp only [Value.slice.injEq] at hA
    obtain ⟨rfl, _, _⟩ := hA
    exact short_any s.loc A'' cL W (own_nil0 hoL) (hrow.up hU) (by have := HLL.out; omega) hL1)
  have HO := Lib.hid (fun (W2 : World) (L : Option Addr) (e : Nat) (hU : Up W1.drew W2) h3 => door_out2 (w := w) (W1 := W1.drew) (W2 := W2) (N := N) (g := g) (done := false) (L := L) (e := e) hU hgB hsz hoA hoN h3 HB1.out HBN.out HBE.out.drew)
  have hS0 : DoorS N g A s.acc.length cA A' s.nts.length cN A'' s.loc.length cL W1.drew := ⟨hp1, hcA, hcN, hcL⟩
  have HU1 := Lib.hid (Up.refl W1).drew
  have HSZ := Lib.hid (show N + 1 < W1.heap.size by have := HS1.out; omega)
  have HD := Lib.hid hS0
  obtain ⟨n1, hn1⟩ : ∃ n, s.acc.length = n := ⟨_, rfl⟩
  obtain ⟨n2, hn2⟩ : ∃ n, s.nts.length = n := ⟨_, rfl⟩
  obtain ⟨n3, hn3⟩ : ∃ n, s.loc.length = n := ⟨_, rfl⟩
  rw [hn1, hn2, hn3] at hS0 HD
  rw [hn1, hn2] at HO
  rw [hn3] at HSH
  clear hcA hcN hcL hoA hoN hoL hA1 hA2 hN1 hN2 hL1 hL2 hn1 hn2 hn3 hp1 hsz
  refine wp_region_noPanic ?_
  refine wp_region_held_drew (S := fun w => w.cell? ⟨N + 1 + 1 + 1, 0, none⟩ = some (.pointer (some ⟨g, 0, none⟩)) ∧ w.cell? ⟨g, 3, none⟩ = some (.slice A n1 cA) ∧ w.cell? ⟨g, 4, none⟩ = some (.slice A' n2 cN) ∧ w.cell? ⟨g, 2, none⟩ = some (.slice A'' n3 cL)) (by kernel_rfl) hS0 (fun hH0 => ?_)
  clear hS0
  refine wpAnyH_take (i := 0) (v := ?_) rfl (by kernel_rfl) (by kernel_rfl) (by kernel_rfl) (fun _ _ _ h => h) (Or.inl ⟨by kernel_rfl, ?_⟩) hH0 ?_
  rotate_left
  · intro w hSw
    try dsimp only at hSw
    go_simp
    try (with_reducible rfl)
  try simp only [Act.put, List.setIfInBounds_toArray, List.set_cons_zero, List.set_cons_succ]
  refine wpAnyH_take (i := 1) (v := ?_) rfl (by kernel_rfl) (by kernel_rfl) (by kernel_rfl) (fun _ _ _ h => h) (Or.inl ⟨by kernel_rfl, ?_⟩) hH0 ?_
  rotate_left
  · intro w hSw
    try dsimp only at hSw
    go_simp
    try (with_reducible rfl)
  try simp only [Act.put, List.setIfInBounds_toArray, List.set_cons_zero, List.set_cons_succ]
  refine wpAnyH_take (i := 2) (v := ?_) rfl (by kernel_rfl) (by kernel_rfl) (by kernel_rfl) (fun _ _ _ h => h) (Or.inl ⟨by kernel_rfl, ?_⟩) hH0 ?_
  rotate_left
  · intro w hSw
    try dsimp only at hSw
    go_simp
    try (with_reducible rfl)
  try simp only [Act.put, List.setIfInBounds_toArray, List.set_cons_zero, List.set_cons_succ]
  refine wpAnyH_take (i := 3) (v := ?_) rfl (by kernel_rfl) (by kernel_rfl) (by kernel_rfl) (fun _ _ _ h => h) (Or.inl ⟨by kernel_rfl, ?_⟩) hH0 ?_
  rotate_left
  · intro w hSw
    try dsimp only at hSw
    go_simp
    try (with_reducible rfl)
  try simp only [Act.put, List.setIfInBounds_toArray, List.set_cons_zero, List.set_cons_succ]
  refine wpAnyH_take (i := 4) (v := ?_) rfl (by kernel_rfl) (by kernel_rfl) (by kernel_rfl) (fun _ _ _ h => h) (Or.inl ⟨by kernel_rfl, ?_⟩) hH0 ?_
  rotate_left
  · intro w hSw
    try dsimp only at hSw
    go_simp
    try (with_reducible rfl)
  try simp only [Act.put, List.setIfInBounds_toArray, List.set_cons_zero, List.set_cons_succ]
  refine wpAnyH_take (i := 5) (v := ?_) rfl (by kernel_rfl) (by kernel_rfl) (by kernel_rfl) (fun _ _ _ h => h) (Or.inl ⟨by kernel_rfl, ?_⟩) hH0 ?_
  rotate_left
  · intro w hSw
    try dsimp only at hSw
    go_simp
    try (with_reducible rfl)
  try simp only [Act.put, List.setIfInBounds_toArray, List.set_cons_zero, List.set_cons_succ]
  refine wpAnyH_take (i := 6) (v := ?_) rfl (by kernel_rfl) (by kernel_rfl) (by kernel_rfl) (fun _ _ _ h => h) (Or.inl ⟨by kernel_rfl, ?_⟩) hH0 ?_
  rotate_left
  · intro w hSw
    try dsimp only at hSw
    go_simp
    try (with_reducible rfl)
  try simp only [Act.put, List.setIfInBounds_toArray, List.set_cons_zero, List.set_cons_succ]
  refine wpAnyH_take (i := 7) (v := ?_) rfl (by kernel_rfl) (by kernel_rfl) (by kernel_rfl) (fun _ _ _ h => h) (Or.inl ⟨by kernel_rfl, ?_⟩) hH0 ?_
  rotate_left
  · intro w hSw
    try dsimp only at hSw
    go_simp
    try (with_reducible rfl)
  try simp only [Act.put, List.setIfInBounds_toArray, List.set_cons_zero, List.set_cons_succ]
  refine wpAnyH_take (i := 8) (v := ?_) rfl (by kernel_rfl) (by kernel_rfl) (by kernel_rfl) (fun _ _ _ h => h) (Or.inl ⟨by kernel_rfl, ?_⟩) hH0 ?_
  rotate_left
  · intro w hSw
    try dsimp only at hSw
    go_simp
    try (with_reducible rfl)
  try simp only [Act.put, List.setIfInBounds_toArray, List.set_cons_zero, List.set_cons_succ]
  refine wpAnyH_take (i := 9) (v := ?_) rfl (by kernel_rfl) (by kernel_rfl) (by kernel_rfl) (fun _ _ _ h => h) (Or.inl ⟨by kernel_rfl, ?_⟩) hH0 ?_
  rotate_left
  · intro w hSw
    try dsimp only at hSw
    go_simp
    try (with_reducible rfl)
  try simp only [Act.put, List.setIfInBounds_toArray, List.set_cons_zero, List.set_cons_succ]
  refine wpAnyH_take (i := 10) (v := ?_) rfl (by kernel_rfl) (by kernel_rfl) (by kernel_rfl) (fun _ _ _ h => h) (Or.inl ⟨by kernel_rfl, ?_⟩) hH0 ?_
  rotate_left
  · intro w hSw
    try dsimp only at hSw
    go_simp
    try (with_reducible rfl)
  try simp only [Act.put, List.setIfInBounds_toArray, List.set_cons_zero, List.set_cons_succ]
  refine wpAnyH_take (i := 11) (v := ?_) rfl (by kernel_rfl) (by kernel_rfl) (by kernel_rfl) (fun _ _ _ h => h) (Or.inl ⟨by kernel_rfl, ?_⟩) hH0 ?_
  rotate_left
  · intro w hSw
    try dsimp only at hSw
    go_simp
    try (with_reducible rfl)
  try simp only [Act.put, List.setIfInBounds_toArray, List.set_cons_zero, List.set_cons_succ]
  refine wpAnyH_take (i := 12) (v := ?_) rfl (by kernel_rfl) (by kernel_rfl) (by kernel_rfl) (fun _ _ _ h => h) (Or.inl ⟨by kernel_rfl, ?_⟩) hH0 ?_
  rotate_left
  · intro w hSw
    try dsimp only at hSw
    go_simp
    try (with_reducible rfl)
  try simp only [Act.put, List.setIfInBounds_toArray, List.set_cons_zero, List.set_cons_succ]
  refine wpAnyH_ready (rs := [13]) (by kernel_rfl) (by simp) ?_
  refine AllReadyH.cons rfl (fun K hK => ?_) AllReadyH.nil
  go_simp
  refine (HSH.out W1.drew HU1.out).mono ?_
  rintro e W2 ⟨v, rfl, h1, h2⟩
  obtain ⟨L, eL, rfl, _, _⟩ := own_form h1
  have HQ := Lib.hid (HO.out W2 L eL h2 h1)
  have hH1 := HD.out.up h2
  have hb2 := Lib.hid ((h2.block (N + 1) (by exact HSZ.out)).trans (show W1.drew.heap[N + 1]? = _ from HB1.out))
  generalize (shortL s.loc).length = n4 at *
  clear h1 h2 HO HSH hH0 HD
  refine hK.out _ _ hH1 (fun hH2 => ?_)
  clear hK K
  try simp only [Act.put, List.setIfInBounds_toArray, List.set_cons_zero, List.set_cons_succ]
  clear hH1
  refine wpAnyH_take (i := 14) (v := ?_) rfl (by kernel_rfl) (by kernel_rfl) (by kernel_rfl) (fun _ _ _ h => h) (Or.inl ⟨by kernel_rfl, ?_⟩) hH2 ?_
  rotate_left
  · intro w hSw
    try dsimp only at hSw
    go_simp
    try (with_reducible rfl)
  try simp only [Act.put, List.setIfInBounds_toArray, List.set_cons_zero, List.set_cons_succ]
  have k0 := cell_of_row W2 (N + 1) 0 _ _ _ hb2.out
  have k1 := cell_of_row W2 (N + 1) 1 _ _ _ hb2.out
  have k2 := cell_of_row W2 (N + 1) 2 _ _ _ hb2.out
  have k3 := cell_of_row W2 (N + 1) 3 _ _ _ hb2.out
  simp only [List.getElem?_toArray, List.getElem?_cons_zero, List.getElem?_cons_succ] at k0 k1 k2 k3
  have f0 := frozen_of_row W2 (N + 1) 0 _ _ hb2.out
  have f1 := frozen_of_row W2 (N + 1) 1 _ _ hb2.out
  have f2 := frozen_of_row W2 (N + 1) 2 _ _ hb2.out
  have f3 := frozen_of_row W2 (N + 1) 3 _ _ hb2.out
  refine wpAnyH_ready (rs := [15]) (by kernel_rfl) (by simp) ?_
  refine AllReadyH.cons rfl (fun K hK => ?_) AllReadyH.nil
  go_simp
  have hH3 : (put4 W2 (N + 1) (.bool false) (.slice A n1 cA) (.slice A' n2 cN) (.slice L n4 eL)).cell? ⟨N + 1 + 1 + 1, 0, none⟩ = some (.pointer (some ⟨g, 0, none⟩)) ∧ (put4 W2 (N + 1) (.bool false) (.slice A n1 cA) (.slice A' n2 cN) (.slice L n4 eL)).cell? ⟨g, 3, none⟩ = some (.slice A n1 cA) ∧
      (put4 W2 (N + 1) (.bool false) (.slice A n1 cA) (.slice A' n2 cN) (.slice L n4 eL)).cell? ⟨g, 4, none⟩ = some (.slice A' n2 cN) ∧ (put4 W2 (N + 1) (.bool false) (.slice A n1 cA) (.slice A' n2 cN) (.slice L n4 eL)).cell? ⟨g, 2, none⟩ = some (.slice A'' n3 cL) :=
    ⟨(tcell (put4_other _ _ _ _ _ _ _ (by omega))).trans hH2.1, (tcell (put4_other _ _ _ _ _ _ _ (by omega))).trans hH2.2.1, (tcell (put4_other _ _ _ _ _ _ _ (by omega))).trans hH2.2.2.1, (tcell (put4_other _ _ _ _ _ _ _ (by omega))).trans hH2.2.2.2⟩
  refine hK.out _ _ hH3 (fun hH4 => ?_)
  clear hK K
  try simp only [Act.put, List.setIfInBounds_toArray, List.set_cons_zero, List.set_cons_succ]
  refine wpAnyH_done (by kernel_rfl) ?_ _
  refine NoPanic.normal ?_
  refine ⟨rfl, .panicking [{ v := .iface 99 (.agg #[.pointer (some ⟨g, 0, none⟩)]), recovered := true }], rfl, .tuple #[], ?_, rfl, rfl, HQ.out.1, HQ.out.2.1, HQ.out.2.2⟩
  simp [results, Try.results40]

end Go.Proofs.Ytedkgamecdmjdaa
