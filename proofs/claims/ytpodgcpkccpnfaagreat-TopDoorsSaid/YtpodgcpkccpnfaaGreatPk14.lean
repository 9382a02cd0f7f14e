/-
  Parts of a proof, packed: PlayR
-/
import Derived.Test.YtpodgcpkccpnfaaGreatPk01
import Derived.Test.YtpodgcpkccpnfaaGreatPk13
set_option linter.unusedVariables false
set_option linter.unusedSimpArgs false
set_option maxRecDepth 20000
set_option maxHeartbeats 16000000
namespace Go.Proofs.YtpodgcpkccpnfaaGreat
open Go.RowKit
theorem own_len {w : World} {B e size n c : Nat} {A : Option Addr} {xs : List Value} (h : w.ownsRow B e size (.slice A n c) n xs) : n ≤ c := by
 obtain ⟨A', c', he, h1, _⟩ := own_form h
 simp only [Value.slice.injEq] at he
 omega
def OutAtL (w : World) (b : Nat) (done : Bool) (s : TS) : Prop := ∃ A c N d L e, w.heap[b]? = some (.cells #[.bool done, .slice A s.acc.length c, .slice N s.nts.length d, .slice L (shortL s.loc).length e] 161 (0, 0)) ∧
 AccRow w A s.acc ∧ NoteRow w N s.nts ∧ Row w L (shortL s.loc).length (IVal (shortL s.loc)) ∧ (L = none → e = 0) ∧ (shortL s.loc).length ≤ e ∧ (∀ b' off, A = some ⟨b', off, none⟩ → b ≤ b') ∧ (∀ b' off, L = some ⟨b', off, none⟩ → b ≤ b') ∧ (∀ b' off, N = some ⟨b', off, none⟩ → b ≤ b')
theorem door_outL {w W1 W2 : World} {N g B : Nat} {s : TS} {done : Bool} {A A' L : Option Addr} {c c' e : Nat} {x0 x1 x2 x3 : Value} (hU : Up W1 W2) (hB : N + 3 < B) (hBs : B ≤ W1.heap.size)
 (h1 : W1.ownsRow B 111 3 (.slice A s.acc.length c) s.acc.length (acells s.acc)) (h2 : W1.ownsRow B 168 2 (.slice A' s.nts.length c') s.nts.length (ncells s.nts))
 (h3 : W2.ownsRow W1.heap.size 3 1 (.slice L (shortL s.loc).length e) (shortL s.loc).length (icells (shortL s.loc))) (hb : W1.heap[N + 1]? = some (.cells #[x0, x1, x2, x3] 161 (0, 0))) (hN : W1.heap[N]? = w.heap[N]?) (hbe : Below N w W1) :
 OutAtL (put4 W2 (N + 1) (.bool done) (.slice A s.acc.length c) (.slice A' s.nts.length c') (.slice L (shortL s.loc).length e)) (N + 1) done s ∧
  (put4 W2 (N + 1) (.bool done) (.slice A s.acc.length c) (.slice A' s.nts.length c') (.slice L (shortL s.loc).length e)).heap[N]? = w.heap[N]? ∧
  Below N w (put4 W2 (N + 1) (.bool done) (.slice A s.acc.length c) (.slice A' s.nts.length c') (.slice L (shortL s.loc).length e)) := by
 have hb2 := (hU.block (N + 1) (by omega)).trans hb
 refine ⟨⟨A, c, A', c', L, e, put4_same _ _ _ _ hb2, ?_, ?_, ?_, ⟨own_nil0 h3, own_len h3, fun b' off ho => by have := own_block h1 b' off ho; omega, fun b' off ho => by have := own_block h3 b' off ho; omega, fun b' off ho => by have := own_block h2 b' off ho; omega⟩⟩, ?_, ?_⟩
 · exact ((acc_row h1).up hU).keep fun b _ ⟨off, ho⟩ => put4_other _ _ _ _ _ _ _ (by have := own_block h1 b off ho; omega)
 · exact ((note_row h2).up hU).keep fun b _ ⟨off, ho⟩ => put4_other _ _ _ _ _ _ _ (by have := own_block h2 b off ho; omega)
 · obtain ⟨A1, c1, hA, hrow, _⟩ := own_row (f := IVal (shortL s.loc)) h3 (fun k hk => iVal_map hk)
   simp only [Value.slice.injEq] at hA
   obtain ⟨rfl, _, _⟩ := hA
   exact row_keep hrow fun b off ho _ => put4_other _ _ _ _ _ _ _ (by have := own_block h3 b off ho; omega)
 · exact (put4_other _ _ _ _ _ _ _ (by omega)).trans ((hU.block N (by omega)).trans hN)
 · exact (hbe.trans (hU.mono (by omega))).trans (put4_below _ _ _ _ _ _ _ (by omega))
theorem door_out2L {w W1 W2 : World} {N g B : Nat} {s : TS} {done : Bool} {A A' L : Option Addr} {c c' e : Nat} {x0 x1 x2 x3 : Value} {o : Obj} (hU : Up W1 W2) (hB : N + 3 < B) (hBs : B ≤ W1.heap.size)
 (h1 : W1.ownsRow B 111 3 (.slice A s.acc.length c) s.acc.length (acells s.acc)) (h2 : W1.ownsRow B 168 2 (.slice A' s.nts.length c') s.nts.length (ncells s.nts))
 (h3 : W2.ownsRow W1.heap.size 3 1 (.slice L (shortL s.loc).length e) (shortL s.loc).length (icells (shortL s.loc))) (hb : W1.heap[N + 1]? = some (.cells #[x0, x1, x2, x3] 161 (0, 0))) (hN : W1.heap[N]? = some o) (hbe : Below N w W1) :
 OutAtL (put4 W2 (N + 1) (.bool done) (.slice A s.acc.length c) (.slice A' s.nts.length c') (.slice L (shortL s.loc).length e)) (N + 1) done s ∧
  (put4 W2 (N + 1) (.bool done) (.slice A s.acc.length c) (.slice A' s.nts.length c') (.slice L (shortL s.loc).length e)).heap[N]? = some o ∧
  Below N w (put4 W2 (N + 1) (.bool done) (.slice A s.acc.length c) (.slice A' s.nts.length c') (.slice L (shortL s.loc).length e)) := by
 obtain ⟨k1, k2, _⟩ := door_outL (w := W1) (done := done) hU hB hBs h1 h2 h3 hb rfl (Below.refl N W1) (g := g)
 refine ⟨k1, k2.trans hN, (hbe.trans (hU.mono (by omega))).trans (put4_below _ _ _ _ _ _ _ (by omega))⟩
def OutL (N0 : Nat) (w : World) (v : Value) (done : Bool) (s : TS) : Prop := ∃ A c N d L e, v = .agg #[.bool done, .slice A s.acc.length c, .slice N s.nts.length d, .slice L (shortL s.loc).length e] ∧
 AccRow w A s.acc ∧ NoteRow w N s.nts ∧ Row w L (shortL s.loc).length (IVal (shortL s.loc)) ∧ (L = none → e = 0) ∧ (shortL s.loc).length ≤ e ∧ (∀ b' off, A = some ⟨b', off, none⟩ → N0 + 1 ≤ b') ∧ (∀ b' off, L = some ⟨b', off, none⟩ → N0 + 1 ≤ b') ∧ (∀ b' off, N = some ⟨b', off, none⟩ → N0 + 1 ≤ b')
def put2 (w : World) (b : Nat) (v0 v1 : Value) : World := (w.setCell ⟨b, 0, none⟩ v0).setCell ⟨b, 1, none⟩ v1
theorem put2_same {w : World} {b : Nat} {t : TypeId} {x0 x1 : Value} (v0 v1 : Value) (h : w.heap[b]? = some (.cells #[x0, x1] t (0, 0))) : (put2 w b v0 v1).heap[b]? = some (.cells #[v0, v1] t (0, 0)) := by
 have hlt : b < w.heap.size := (Array.getElem?_eq_some_iff.1 h).1
 unfold put2
 obtain ⟨h1, h2⟩ := Array.getElem?_eq_some_iff.1 h
 simp [World.setCell, Array.getElem?_modify, h]
theorem put2_other (w : World) (b k : Nat) (v0 v1 : Value) (h : k ≠ b) : (put2 w b v0 v1).heap[k]? = w.heap[k]? := by
 unfold put2
 rw [Below.heap_setCell _ _ _ _ (by simpa using h), Below.heap_setCell _ _ _ _ (by simpa using h)]
theorem put2_size (w : World) (b : Nat) (v0 v1 : Value) : (put2 w b v0 v1).heap.size = w.heap.size := by simp [put2]
theorem put2_below (w : World) (b N : Nat) (v0 v1 : Value) (h : N ≤ b) : Below N w (put2 w b v0 v1) :=
 ((Below.refl N w).setCell (p := ⟨b, 0, none⟩) h v0).setCell (p := ⟨b, 1, none⟩) h v1
theorem door_okR (N g B : Nat) (z : Value) (s : TS) (w : World) (h : Tape1 w g B s) (hN : N + 1 < g) (hgB : N + 3 < B) (hg3 : g ≠ N + 1 + 1 + 1) (hNs : N + 3 < w.heap.size)
 (hp : w.cell? ⟨N + 1 + 1 + 1, 0, none⟩ = some (.pointer (some ⟨g, 0, none⟩))) (ho : w.heap[N + 1]? = some (.cells #[.bool false, .slice none 0 0, .slice none 0 0, .slice none 0 0] 161 (0, 0))) :
 CallsD Tryz.prog 110 #[.pointer (some ⟨N + 1 + 1 + 1, 0, none⟩), .pointer (some ⟨N, 0, none⟩), .pointer (some ⟨N + 1, 0, none⟩)] .returning w fun e u' w' =>
  e = .returned (.tuple #[]) ∧ u' = .returning ∧ OutAtL w' (N + 1) true s ∧ w'.heap[N]? = w.heap[N]? ∧ Below N w w' := by
 have c0 := h.1.c0
 have f0 := h.1.fz 0
 have HT := hQ' (h.1.state 0)
 have HK := hQ' ((TK.refl g B w).setCell (j := 0) (.int .i64 0))
 have hb1 := (Below.heap_setCell w ⟨g, 0, none⟩ (.int .i64 0) (N + 1) (by simp; omega)).trans ho
 have hbN := Below.heap_setCell w ⟨g, 0, none⟩ (.int .i64 0) N (by simp; omega)
 have HBE := hQ' ((Below.refl N w).setCell (p := ⟨g, 0, none⟩) (by simp; omega) (.int .i64 0))
 have hs1 : (w.setCell ⟨g, 0, none⟩ (.int .i64 0)).heap.size = w.heap.size := by simp
 have HB1 := hQ' hb1
 have HBN := hQ' hbN
 have HS1 := hQ' hs1
 clear hb1 hbN hs1
 have hp1 := (World.cell?_setCell_other w ⟨g, 0, none⟩ ⟨N + 1 + 1 + 1, 0, none⟩ (.int .i64 0) (by simp <;> omega)).trans hp
 refine callsD_of_wpS Tryz.func110 rfl fun c₀ cs hu => ?_
 simp only [Tryz.ntmps110, List.size_toArray, List.length_cons, List.length_nil, Nat.reduceAdd, Nat.reduceSub, Array.replicate_succ, Array.replicate_zero, List.push_toArray, List.append_toArray, List.nil_append, List.cons_append]
 apply wpS_seq
 apply wpS_region
 simp [wpOpsS, go_sem, recoverD, hu, Exit.thenS, hp, c0]
 apply wpS_seq
 apply wpS_region
 simp [wpOpsS, go_sem, recoverD, hu, Exit.thenS, hp, c0, f0]
 generalize w.setCell ⟨g, 0, none⟩ (.int .i64 0) = W1 at *
 apply wpS_seq
 apply wpS_seq
 apply wpS_region
 simp [wpOpsS, go_sem, recoverD, hu, Exit.thenS]
 apply wpS_seq
 apply wpS_region
 simp [wpOpsS, go_sem, recoverD, hu, Exit.thenS]
 refine wpS_cond (t := false) rfl ?_
 simp only [Bool.false_eq_true, if_false]
 refine wpS_of_wp (wp_skip ?_)
 show Code.wpS _ _ _ _ _ _
 refine wpS_of_wp ?_
 go_wp2_with fail
 obtain ⟨vA, hcA, hoA⟩ := HT.out.acc
 obtain ⟨A, cA, rfl, hA1, hA2⟩ := own_form hoA
 obtain ⟨vN, hcN, hoN⟩ := HT.out.nts
 obtain ⟨A', cN, rfl, hN1, hN2⟩ := own_form hoN
 obtain ⟨vL, hcL, hoL⟩ := HT.out.loc
 obtain ⟨A'', cL, rfl, hL1, hL2⟩ := own_form hoL
 have HSH := hQ' (fun (W : World) (hU : Up W1 W) => by
  obtain ⟨A1, c1, hA, hrow, _⟩ := own_row (f := IVal s.loc) hoL (fun k hk => iVal_map hk)
  simp only [Value.slice.injEq] at hA
  obtain ⟨rfl, _, _⟩ := hA
  exact short_any s.loc A'' cL W (own_nil0 hoL) (hrow.up hU) (by have := HT.out.ll; omega) hL1)
 have HO := hQ' (fun (W2 : World) (L : Option Addr) (e : Nat) (hU : Up W1.drew W2) h3 => door_outL (w := w) (W1 := W1.drew) (W2 := W2) (N := N) (g := g) (done := true) (L := L) (e := e) hU hgB HT.out.sz hoA hoN h3 HB1.out HBN.out HBE.out.drew)
 have hS0 : DoorS N g A s.acc.length cA A' s.nts.length cN A'' s.loc.length cL W1.drew := ⟨hp1, hcA, hcN, hcL⟩
 have HU1 := hQ' (Up.refl W1).drew
 have HSZ := hQ' (show N + 1 < W1.heap.size by have := HS1.out; omega)
 have HD := hQ' hS0
 obtain ⟨n1, hn1⟩ : ∃ n, s.acc.length = n := ⟨_, rfl⟩
 obtain ⟨n2, hn2⟩ : ∃ n, s.nts.length = n := ⟨_, rfl⟩
 obtain ⟨n3, hn3⟩ : ∃ n, s.loc.length = n := ⟨_, rfl⟩
 rw [hn1, hn2, hn3] at hS0 HD
 rw [hn1, hn2] at HO
 rw [hn3] at HSH
 clear hcA hcN hcL hoA hoN hoL hA1 hA2 hN1 hN2 hL1 hL2 h c0 f0 hp ho hn1 hn2 hn3
 refine wp_region_noPanic ?_
 refine wp_region_held_drew (S := fun w => w.cell? ⟨N + 1 + 1 + 1, 0, none⟩ = some (.pointer (some ⟨g, 0, none⟩)) ∧ w.cell? ⟨g, 3, none⟩ = some (.slice A n1 cA) ∧ w.cell? ⟨g, 4, none⟩ = some (.slice A' n2 cN) ∧ w.cell? ⟨g, 2, none⟩ = some (.slice A'' n3 cL)) (by kernel_rfl) hS0 (fun hH0 => ?_)
 clear hS0
 refine tkE 0 ?_ rfl (by kernel_rfl) (fun _ _ _ h => h) hH0 ?_ ?_
 rotate_left
 · intro w hSw
   try dsimp only at hSw
   go_simp
   try (with_reducible rfl)
 try simp only [Act.put, sC_I, sC_0, sC_1]
 refine tkE 1 ?_ rfl (by kernel_rfl) (fun _ _ _ h => h) hH0 ?_ ?_
 rotate_left
 · intro w hSw
   try dsimp only at hSw
   go_simp
   try (with_reducible rfl)
 try simp only [Act.put, sC_I, sC_0, sC_1]
 refine tkE 2 ?_ rfl (by kernel_rfl) (fun _ _ _ h => h) hH0 ?_ ?_
 rotate_left
 · intro w hSw
   try dsimp only at hSw
   go_simp
   try (with_reducible rfl)
 try simp only [Act.put, sC_I, sC_0, sC_1]
 refine tkE 3 ?_ rfl (by kernel_rfl) (fun _ _ _ h => h) hH0 ?_ ?_
 rotate_left
 · intro w hSw
   try dsimp only at hSw
   go_simp
   try (with_reducible rfl)
 try simp only [Act.put, sC_I, sC_0, sC_1]
 refine tkE 4 ?_ rfl (by kernel_rfl) (fun _ _ _ h => h) hH0 ?_ ?_
 rotate_left
 · intro w hSw
   try dsimp only at hSw
   go_simp
   try (with_reducible rfl)
 try simp only [Act.put, sC_I, sC_0, sC_1]
 refine tkE 5 ?_ rfl (by kernel_rfl) (fun _ _ _ h => h) hH0 ?_ ?_
 rotate_left
 · intro w hSw
   try dsimp only at hSw
   go_simp
   try (with_reducible rfl)
 try simp only [Act.put, sC_I, sC_0, sC_1]
 refine tkE 6 ?_ rfl (by kernel_rfl) (fun _ _ _ h => h) hH0 ?_ ?_
 rotate_left
 · intro w hSw
   try dsimp only at hSw
   go_simp
   try (with_reducible rfl)
 try simp only [Act.put, sC_I, sC_0, sC_1]
 refine tkE 7 ?_ rfl (by kernel_rfl) (fun _ _ _ h => h) hH0 ?_ ?_
 rotate_left
 · intro w hSw
   try dsimp only at hSw
   go_simp
   try (with_reducible rfl)
 try simp only [Act.put, sC_I, sC_0, sC_1]
 refine tkE 8 ?_ rfl (by kernel_rfl) (fun _ _ _ h => h) hH0 ?_ ?_
 rotate_left
 · intro w hSw
   try dsimp only at hSw
   go_simp
   try (with_reducible rfl)
 try simp only [Act.put, sC_I, sC_0, sC_1]
 refine tkE 9 ?_ rfl (by kernel_rfl) (fun _ _ _ h => h) hH0 ?_ ?_
 rotate_left
 · intro w hSw
   try dsimp only at hSw
   go_simp
   try (with_reducible rfl)
 try simp only [Act.put, sC_I, sC_0, sC_1]
 refine tkE 10 ?_ rfl (by kernel_rfl) (fun _ _ _ h => h) hH0 ?_ ?_
 rotate_left
 · intro w hSw
   try dsimp only at hSw
   go_simp
   try (with_reducible rfl)
 try simp only [Act.put, sC_I, sC_0, sC_1]
 refine tkE 11 ?_ rfl (by kernel_rfl) (fun _ _ _ h => h) hH0 ?_ ?_
 rotate_left
 · intro w hSw
   try dsimp only at hSw
   go_simp
   try (with_reducible rfl)
 try simp only [Act.put, sC_I, sC_0, sC_1]
 refine tkE 12 ?_ rfl (by kernel_rfl) (fun _ _ _ h => h) hH0 ?_ ?_
 rotate_left
 · intro w hSw
   try dsimp only at hSw
   go_simp
   try (with_reducible rfl)
 try simp only [Act.put, sC_I, sC_0, sC_1]
 refine rdE 13 (by kernel_rfl) rfl fun K hK => ?_
 go_simp
 refine (HSH.out W1.drew HU1.out).mono ?_
 rintro e W2 ⟨v, rfl, h1, h2⟩
 obtain ⟨L, eL, rfl, _, _⟩ := own_form h1
 have HQ := hQ' (HO.out W2 L eL h2 h1)
 have hH1 := HD.out.up h2
 have hb2 := hQ' ((h2.block (N + 1) (by exact HSZ.out)).trans (show W1.drew.heap[N + 1]? = _ from HB1.out))
 generalize (shortL s.loc).length = n4 at *
 clear h1 h2 HO HSH hH0 HD
 refine hK.out _ _ hH1 (fun hH2 => ?_)
 clear hK K
 try simp only [Act.put, sC_I, sC_0, sC_1]
 clear hH1
 refine tkE 14 ?_ rfl (by kernel_rfl) (fun _ _ _ h => h) hH2 ?_ ?_
 rotate_left
 · intro w hSw
   try dsimp only at hSw
   go_simp
   try (with_reducible rfl)
 try simp only [Act.put, sC_I, sC_0, sC_1]
 have k0 := cell_of_row W2 (N + 1) 0 _ _ _ hb2.out
 have k1 := cell_of_row W2 (N + 1) 1 _ _ _ hb2.out
 have k2 := cell_of_row W2 (N + 1) 2 _ _ _ hb2.out
 have k3 := cell_of_row W2 (N + 1) 3 _ _ _ hb2.out
 simp only [gA_T, gA_0, gA_S] at k0 k1 k2 k3
 have f0 := frozen_of_row W2 (N + 1) 0 _ _ hb2.out
 have f1 := frozen_of_row W2 (N + 1) 1 _ _ hb2.out
 have f2 := frozen_of_row W2 (N + 1) 2 _ _ hb2.out
 have f3 := frozen_of_row W2 (N + 1) 3 _ _ hb2.out
 refine rdE 15 (by kernel_rfl) rfl fun K hK => ?_
 go_simp
 have hH3 : (put4 W2 (N + 1) (.bool true) (.slice A n1 cA) (.slice A' n2 cN) (.slice L n4 eL)).cell? ⟨N + 1 + 1 + 1, 0, none⟩ = some (.pointer (some ⟨g, 0, none⟩)) ∧ (put4 W2 (N + 1) (.bool true) (.slice A n1 cA) (.slice A' n2 cN) (.slice L n4 eL)).cell? ⟨g, 3, none⟩ = some (.slice A n1 cA) ∧
  (put4 W2 (N + 1) (.bool true) (.slice A n1 cA) (.slice A' n2 cN) (.slice L n4 eL)).cell? ⟨g, 4, none⟩ = some (.slice A' n2 cN) ∧ (put4 W2 (N + 1) (.bool true) (.slice A n1 cA) (.slice A' n2 cN) (.slice L n4 eL)).cell? ⟨g, 2, none⟩ = some (.slice A'' n3 cL) :=
  ⟨(tcell (put4_other _ _ _ _ _ _ _ (by omega))).trans hH2.1, (tcell (put4_other _ _ _ _ _ _ _ (by omega))).trans hH2.2.1, (tcell (put4_other _ _ _ _ _ _ _ (by omega))).trans hH2.2.2.1, (tcell (put4_other _ _ _ _ _ _ _ (by omega))).trans hH2.2.2.2⟩
 refine hK.out _ _ hH3 (fun hH4 => ?_)
 clear hK K
 try simp only [Act.put, sC_I, sC_0, sC_1]
 refine wpAnyH_done (by kernel_rfl) ?_ _
 refine NoPanic.normal ?_
 refine ⟨rfl, .returning, by cases c₀; simp_all, .tuple #[], ?_, rfl, rfl, HQ.out.1, HQ.out.2.1, HQ.out.2.2⟩
 simp [results, Tryz.results110]
theorem door_stopR (N g B : Nat) (z : Value) (s : TS) (w : World) (h : TapeIs w g B 2 s) (hN : N + 1 < g) (hgB : N + 3 < B) (hg3 : g ≠ N + 1 + 1 + 1) (hNs : N + 3 < w.heap.size)
 (hp : w.cell? ⟨N + 1 + 1 + 1, 0, none⟩ = some (.pointer (some ⟨g, 0, none⟩))) (hz : w.heap[N]? = some (.cells #[.int .i64 0, .int .i64 0] 58 (0, 0))) (ho : w.heap[N + 1]? = some (.cells #[.bool false, .slice none 0 0, .slice none 0 0, .slice none 0 0] 161 (0, 0))) :
 CallsD Tryz.prog 110 #[.pointer (some ⟨N + 1 + 1 + 1, 0, none⟩), .pointer (some ⟨N, 0, none⟩), .pointer (some ⟨N + 1, 0, none⟩)] (.panicking (stopC g)) w fun e u' w' =>
  e = .returned (.tuple #[]) ∧ u' = .panicking [{ v := .iface 198 (.agg #[.pointer (some ⟨g, 0, none⟩)]), recovered := true }] ∧ OutAtL w' (N + 1) false s ∧ w'.heap[N]? = some (.cells #[.int .i64 0, .int .i64 0] 58 (0, 0)) ∧ Below N w w' := by
 have hta : ∀ (x : Value) (W : World), (Instr.typeAssert (.iface 198 x) 20 198 true).run Tryz.prog W = .ok (.tuple #[x, .bool true]) W := fun _ _ => by kernel_rfl
 have hnp : ∀ (a : Addr) (W : World), (binOp .neq 164 (.pointer (some a)) (.pointer (some a))).run Tryz.prog W = .ok (.bool false) W := fun a W => Lib.run_neq_ptr_same (P := Tryz.prog) (te := 196) W a Tryz.underlying164 infoMem
 have c0 := h.c0
 have f0 := h.fz 0
 have HT := hQ' (h.state 0)
 have HK := hQ' ((TK.refl g B w).setCell (j := 0) (.int .i64 0))
 have hb1 := (Below.heap_setCell w ⟨g, 0, none⟩ (.int .i64 0) (N + 1) (by simp; omega)).trans ho
 have hbN := Below.heap_setCell w ⟨g, 0, none⟩ (.int .i64 0) N (by simp; omega)
 have HBE := hQ' ((Below.refl N w).setCell (p := ⟨g, 0, none⟩) (by simp; omega) (.int .i64 0))
 have hs1 : (w.setCell ⟨g, 0, none⟩ (.int .i64 0)).heap.size = w.heap.size := by simp
 have HB1 := hQ' hb1
 have HBN := hQ' hbN
 have HS1 := hQ' hs1
 clear hb1 hbN hs1
 have hp1 := (World.cell?_setCell_other w ⟨g, 0, none⟩ ⟨N + 1 + 1 + 1, 0, none⟩ (.int .i64 0) (by simp <;> omega)).trans hp
 refine callsD_of_wpS Tryz.func110 rfl fun c₀ cs hu => ?_
 simp only [Tryz.ntmps110, List.size_toArray, List.length_cons, List.length_nil, Nat.reduceAdd, Nat.reduceSub, Array.replicate_succ, Array.replicate_zero, List.push_toArray, List.append_toArray, List.nil_append, List.cons_append]
 apply wpS_seq
 apply wpS_region
 simp [wpOpsS, go_sem, recoverD, hu, Exit.thenS, hp, c0]
 apply wpS_seq
 apply wpS_region
 simp [wpOpsS, go_sem, recoverD, hu, Exit.thenS, hp, c0, f0]
 generalize w.setCell ⟨g, 0, none⟩ (.int .i64 0) = W1 at *
 apply wpS_seq
 apply wpS_seq
 apply wpS_region
 simp [wpOpsS, go_sem, recoverD, hu, Exit.thenS, stopC]
 apply wpS_seq
 apply wpS_region
 simp [wpOpsS, go_sem, recoverD, hu, Exit.thenS]
 refine wpS_cond (t := true) rfl ?_
 simp only [if_true]
 refine wpS_of_wp ?_
 have hpl : N + 1 + 1 + 1 < W1.heap.size := by have := HS1.out; omega
 go_wp2_with fail
 obtain ⟨vA, hcA0, hoA0⟩ := HT.out.acc
 obtain ⟨A, cA, rfl, hA1, hA2⟩ := own_form hoA0
 obtain ⟨vN, hcN0, hoN0⟩ := HT.out.nts
 obtain ⟨A', cN, rfl, hN1, hN2⟩ := own_form hoN0
 obtain ⟨vL, hcL0, hoL0⟩ := HT.out.loc
 obtain ⟨A'', cL, rfl, hL1, hL2⟩ := own_form hoL0
 have HLL := hQ' HT.out.ll
 have HSZB := hQ' HT.out.sz
 have hU2 : Up W1 (W1.alloc (.cells #[.pointer (some ⟨g, 0, none⟩)] 198)) := (Up.refl W1).alloc _
 have hcA1 := (hU2.cell (p := ⟨g, 3, none⟩) (cell_lt hcA0)).trans hcA0
 have hcN1 := (hU2.cell (p := ⟨g, 4, none⟩) (cell_lt hcN0)).trans hcN0
 have hcL1 := (hU2.cell (p := ⟨g, 2, none⟩) (cell_lt hcL0)).trans hcL0
 have hp2 := (hU2.cell (p := ⟨N + 1 + 1 + 1, 0, none⟩) hpl).trans hp1
 have hoA1 := own_up hoA0 hU2
 have hoN1 := own_up hoN0 hU2
 have hoL1 := own_up hoL0 hU2
 have hzN := (hU2.block N (by omega)).trans (HBN.out.trans hz)
 have hb2 := (hU2.block (N + 1) (by omega)).trans HB1.out
 have hbe2 := HBE.out.trans (hU2.mono (B' := N) (by omega))
 have hs2 := hU2.size
 generalize W1.alloc (.cells #[.pointer (some ⟨g, 0, none⟩)] 198) = W3 at *
 have hU4 : Up W3 (W3.alloc (.cells #[.int .i64 0, .int .i64 0] 58)) := (Up.refl W3).alloc _
 have hltN : N < W3.heap.size := (Array.getElem?_eq_some_iff.1 hzN).1
 replace hoA1 := own_up hoA1 hU4
 replace hoN1 := own_up hoN1 hU4
 replace hoL1 := own_up hoL1 hU4
 replace hcA1 := (hU4.cell (p := ⟨g, 3, none⟩) (cell_lt hcA1)).trans hcA1
 replace hcN1 := (hU4.cell (p := ⟨g, 4, none⟩) (cell_lt hcN1)).trans hcN1
 replace hcL1 := (hU4.cell (p := ⟨g, 2, none⟩) (cell_lt hcL1)).trans hcL1
 replace hp2 := (hU4.cell (p := ⟨N + 1 + 1 + 1, 0, none⟩) (cell_lt hp2)).trans hp2
 replace hb2 := (hU4.block (N + 1) (Array.getElem?_eq_some_iff.1 hb2).1).trans hb2
 replace hzN := (hU4.block N hltN).trans hzN
 replace hbe2 := hbe2.trans (hU4.mono (B' := N) (by omega))
 replace hs2 := Nat.le_trans hs2 hU4.size
 clear hU4 hltN
 have kN := cell_of_row (W3.alloc (.cells #[.int .i64 0, .int .i64 0] 58)) N 0 _ _ _ hzN
 have kN1 := cell_of_row (W3.alloc (.cells #[.int .i64 0, .int .i64 0] 58)) N 1 _ _ _ hzN
 simp only [gA_T, gA_0, gA_S] at kN kN1
 have fN := frozen_of_row (W3.alloc (.cells #[.int .i64 0, .int .i64 0] 58)) N 0 _ _ hzN
 have fN1 := frozen_of_row (W3.alloc (.cells #[.int .i64 0, .int .i64 0] 58)) N 1 _ _ hzN
 have HoA1 := hQ' hoA1
 have HoN1 := hQ' hoN1
 have HoL1 := hQ' hoL1
 have HzN := hQ' hzN
 have Hb2 := hQ' hb2
 have Hbe2 := hQ' hbe2
 have Hs2 := hQ' hs2
 have Hp2 := hQ' hp2
 have HcA1 := hQ' hcA1
 have HcN1 := hQ' hcN1
 have HcL1 := hQ' hcL1
 have HPL := hQ' hpl
 clear hcA0 hcN0 hcL0 hoA0 hoN0 hoL0 hU2 hoA1 hoN1 hoL1 hzN hb2 hbe2 HT HK HBE HB1 HBN hs2 c0 f0 h hp ho hp1 hp2 hcA1 hcN1 hcL1 hz hpl hta
 show Code.wpS _ _ _ _ _ _
 refine wpS_of_wp ?_
 go_wp2_with fail
 have hk : ∀ k, k ≠ N → (put2 (W3.alloc (.cells #[.int .i64 0, .int .i64 0] 58)) N (.int .i64 0) (.int .i64 0)).heap[k]? = (W3.alloc (.cells #[.int .i64 0, .int .i64 0] 58)).heap[k]? := fun k hk => put2_other (W3.alloc (.cells #[.int .i64 0, .int .i64 0] 58)) N k _ _ hk
 have hcA := (tcell (o := 3) (hk g (by omega))).trans HcA1.out
 have hcN := (tcell (o := 4) (hk g (by omega))).trans HcN1.out
 have hcL := (tcell (o := 2) (hk g (by omega))).trans HcL1.out
 have hp1 := (tcell (o := 0) (hk (N + 1 + 1 + 1) (by omega))).trans Hp2.out
 have hoA := own_keep HoA1.out (fun k cs hB _ => hk k (by omega))
 have hoN := own_keep HoN1.out (fun k cs hB _ => hk k (by omega))
 have hoL := own_keep HoL1.out (fun k cs hB _ => hk k (by omega))
 have HB1 := hQ' ((hk (N + 1) (by omega)).trans Hb2.out)
 have HBN := hQ' (put2_same (.int .i64 0) (.int .i64 0) HzN.out)
 have HBE := hQ' (Hbe2.out.trans (put2_below (W3.alloc (.cells #[.int .i64 0, .int .i64 0] 58)) N N (.int .i64 0) (.int .i64 0) (Nat.le_refl _)))
 have hsz : B ≤ (put2 (W3.alloc (.cells #[.int .i64 0, .int .i64 0] 58)) N (.int .i64 0) (.int .i64 0)).heap.size := by rw [put2_size]; have := HSZB.out; have := Hs2.out; omega
 have HS1 := hQ' (show N + 3 < (put2 (W3.alloc (.cells #[.int .i64 0, .int .i64 0] 58)) N (.int .i64 0) (.int .i64 0)).heap.size by rw [put2_size]; have := HPL.out; have := Hs2.out; omega)
 rw [show ((W3.alloc (.cells #[.int .i64 0, .int .i64 0] 58)).setCell ⟨N, 0, none⟩ (.int .i64 0)).setCell ⟨N, 1, none⟩ (.int .i64 0) = put2 (W3.alloc (.cells #[.int .i64 0, .int .i64 0] 58)) N (.int .i64 0) (.int .i64 0) from rfl]
 generalize put2 (W3.alloc (.cells #[.int .i64 0, .int .i64 0] 58)) N (.int .i64 0) (.int .i64 0) = W1 at *
 clear hk Hp2 HoA1 HoN1 HoL1 HzN Hb2 Hbe2 Hs2 HSZB kN fN kN1 fN1 HcA1 HcN1 HcL1 HPL
 have HSH := hQ' (fun (W : World) (hU : Up W1 W) => by
  obtain ⟨A1, c1, hA, hrow, _⟩ := own_row (f := IVal s.loc) hoL (fun k hk => iVal_map hk)
  simp only [Value.slice.injEq] at hA
  obtain ⟨rfl, _, _⟩ := hA
  exact short_any s.loc A'' cL W (own_nil0 hoL) (hrow.up hU) (by have := HLL.out; omega) hL1)
 have HO := hQ' (fun (W2 : World) (L : Option Addr) (e : Nat) (hU : Up W1.drew W2) h3 => door_out2L (w := w) (W1 := W1.drew) (W2 := W2) (N := N) (g := g) (done := false) (L := L) (e := e) hU hgB hsz hoA hoN h3 HB1.out HBN.out HBE.out.drew)
 have hS0 : DoorS N g A s.acc.length cA A' s.nts.length cN A'' s.loc.length cL W1.drew := ⟨hp1, hcA, hcN, hcL⟩
 have HU1 := hQ' (Up.refl W1).drew
 have HSZ := hQ' (show N + 1 < W1.heap.size by have := HS1.out; omega)
 have HD := hQ' hS0
 obtain ⟨n1, hn1⟩ : ∃ n, s.acc.length = n := ⟨_, rfl⟩
 obtain ⟨n2, hn2⟩ : ∃ n, s.nts.length = n := ⟨_, rfl⟩
 obtain ⟨n3, hn3⟩ : ∃ n, s.loc.length = n := ⟨_, rfl⟩
 rw [hn1, hn2, hn3] at hS0 HD
 rw [hn1, hn2] at HO
 rw [hn3] at HSH
 clear hcA hcN hcL hoA hoN hoL hA1 hA2 hN1 hN2 hL1 hL2 hn1 hn2 hn3 hp1 hsz
 refine wp_region_noPanic ?_
 refine wp_region_held_drew (S := fun w => w.cell? ⟨N + 1 + 1 + 1, 0, none⟩ = some (.pointer (some ⟨g, 0, none⟩)) ∧ w.cell? ⟨g, 3, none⟩ = some (.slice A n1 cA) ∧ w.cell? ⟨g, 4, none⟩ = some (.slice A' n2 cN) ∧ w.cell? ⟨g, 2, none⟩ = some (.slice A'' n3 cL)) (by kernel_rfl) hS0 (fun hH0 => ?_)
 clear hS0
 refine tkE 0 ?_ rfl (by kernel_rfl) (fun _ _ _ h => h) hH0 ?_ ?_
 rotate_left
 · intro w hSw
   try dsimp only at hSw
   go_simp
   try (with_reducible rfl)
 try simp only [Act.put, sC_I, sC_0, sC_1]
 refine tkE 1 ?_ rfl (by kernel_rfl) (fun _ _ _ h => h) hH0 ?_ ?_
 rotate_left
 · intro w hSw
   try dsimp only at hSw
   go_simp
   try (with_reducible rfl)
 try simp only [Act.put, sC_I, sC_0, sC_1]
 refine tkE 2 ?_ rfl (by kernel_rfl) (fun _ _ _ h => h) hH0 ?_ ?_
 rotate_left
 · intro w hSw
   try dsimp only at hSw
   go_simp
   try (with_reducible rfl)
 try simp only [Act.put, sC_I, sC_0, sC_1]
 refine tkE 3 ?_ rfl (by kernel_rfl) (fun _ _ _ h => h) hH0 ?_ ?_
 rotate_left
 · intro w hSw
   try dsimp only at hSw
   go_simp
   try (with_reducible rfl)
 try simp only [Act.put, sC_I, sC_0, sC_1]
 refine tkE 4 ?_ rfl (by kernel_rfl) (fun _ _ _ h => h) hH0 ?_ ?_
 rotate_left
 · intro w hSw
   try dsimp only at hSw
   go_simp
   try (with_reducible rfl)
 try simp only [Act.put, sC_I, sC_0, sC_1]
 refine tkE 5 ?_ rfl (by kernel_rfl) (fun _ _ _ h => h) hH0 ?_ ?_
 rotate_left
 · intro w hSw
   try dsimp only at hSw
   go_simp
   try (with_reducible rfl)
 try simp only [Act.put, sC_I, sC_0, sC_1]
 refine tkE 6 ?_ rfl (by kernel_rfl) (fun _ _ _ h => h) hH0 ?_ ?_
 rotate_left
 · intro w hSw
   try dsimp only at hSw
   go_simp
   try (with_reducible rfl)
 try simp only [Act.put, sC_I, sC_0, sC_1]
 refine tkE 7 ?_ rfl (by kernel_rfl) (fun _ _ _ h => h) hH0 ?_ ?_
 rotate_left
 · intro w hSw
   try dsimp only at hSw
   go_simp
   try (with_reducible rfl)
 try simp only [Act.put, sC_I, sC_0, sC_1]
 refine tkE 8 ?_ rfl (by kernel_rfl) (fun _ _ _ h => h) hH0 ?_ ?_
 rotate_left
 · intro w hSw
   try dsimp only at hSw
   go_simp
   try (with_reducible rfl)
 try simp only [Act.put, sC_I, sC_0, sC_1]
 refine tkE 9 ?_ rfl (by kernel_rfl) (fun _ _ _ h => h) hH0 ?_ ?_
 rotate_left
 · intro w hSw
   try dsimp only at hSw
   go_simp
   try (with_reducible rfl)
 try simp only [Act.put, sC_I, sC_0, sC_1]
 refine tkE 10 ?_ rfl (by kernel_rfl) (fun _ _ _ h => h) hH0 ?_ ?_
 rotate_left
 · intro w hSw
   try dsimp only at hSw
   go_simp
   try (with_reducible rfl)
 try simp only [Act.put, sC_I, sC_0, sC_1]
 refine tkE 11 ?_ rfl (by kernel_rfl) (fun _ _ _ h => h) hH0 ?_ ?_
 rotate_left
 · intro w hSw
   try dsimp only at hSw
   go_simp
   try (with_reducible rfl)
 try simp only [Act.put, sC_I, sC_0, sC_1]
 refine tkE 12 ?_ rfl (by kernel_rfl) (fun _ _ _ h => h) hH0 ?_ ?_
 rotate_left
 · intro w hSw
   try dsimp only at hSw
   go_simp
   try (with_reducible rfl)
 try simp only [Act.put, sC_I, sC_0, sC_1]
 refine rdE 13 (by kernel_rfl) rfl fun K hK => ?_
 go_simp
 refine (HSH.out W1.drew HU1.out).mono ?_
 rintro e W2 ⟨v, rfl, h1, h2⟩
 obtain ⟨L, eL, rfl, _, _⟩ := own_form h1
 have HQ := hQ' (HO.out W2 L eL h2 h1)
 have hH1 := HD.out.up h2
 have hb2 := hQ' ((h2.block (N + 1) (by exact HSZ.out)).trans (show W1.drew.heap[N + 1]? = _ from HB1.out))
 generalize (shortL s.loc).length = n4 at *
 clear h1 h2 HO HSH hH0 HD
 refine hK.out _ _ hH1 (fun hH2 => ?_)
 clear hK K
 try simp only [Act.put, sC_I, sC_0, sC_1]
 clear hH1
 refine tkE 14 ?_ rfl (by kernel_rfl) (fun _ _ _ h => h) hH2 ?_ ?_
 rotate_left
 · intro w hSw
   try dsimp only at hSw
   go_simp
   try (with_reducible rfl)
 try simp only [Act.put, sC_I, sC_0, sC_1]
 have k0 := cell_of_row W2 (N + 1) 0 _ _ _ hb2.out
 have k1 := cell_of_row W2 (N + 1) 1 _ _ _ hb2.out
 have k2 := cell_of_row W2 (N + 1) 2 _ _ _ hb2.out
 have k3 := cell_of_row W2 (N + 1) 3 _ _ _ hb2.out
 simp only [gA_T, gA_0, gA_S] at k0 k1 k2 k3
 have f0 := frozen_of_row W2 (N + 1) 0 _ _ hb2.out
 have f1 := frozen_of_row W2 (N + 1) 1 _ _ hb2.out
 have f2 := frozen_of_row W2 (N + 1) 2 _ _ hb2.out
 have f3 := frozen_of_row W2 (N + 1) 3 _ _ hb2.out
 refine rdE 15 (by kernel_rfl) rfl fun K hK => ?_
 go_simp
 have hH3 : (put4 W2 (N + 1) (.bool false) (.slice A n1 cA) (.slice A' n2 cN) (.slice L n4 eL)).cell? ⟨N + 1 + 1 + 1, 0, none⟩ = some (.pointer (some ⟨g, 0, none⟩)) ∧ (put4 W2 (N + 1) (.bool false) (.slice A n1 cA) (.slice A' n2 cN) (.slice L n4 eL)).cell? ⟨g, 3, none⟩ = some (.slice A n1 cA) ∧
  (put4 W2 (N + 1) (.bool false) (.slice A n1 cA) (.slice A' n2 cN) (.slice L n4 eL)).cell? ⟨g, 4, none⟩ = some (.slice A' n2 cN) ∧ (put4 W2 (N + 1) (.bool false) (.slice A n1 cA) (.slice A' n2 cN) (.slice L n4 eL)).cell? ⟨g, 2, none⟩ = some (.slice A'' n3 cL) :=
  ⟨(tcell (put4_other _ _ _ _ _ _ _ (by omega))).trans hH2.1, (tcell (put4_other _ _ _ _ _ _ _ (by omega))).trans hH2.2.1, (tcell (put4_other _ _ _ _ _ _ _ (by omega))).trans hH2.2.2.1, (tcell (put4_other _ _ _ _ _ _ _ (by omega))).trans hH2.2.2.2⟩
 refine hK.out _ _ hH3 (fun hH4 => ?_)
 clear hK K
 try simp only [Act.put, sC_I, sC_0, sC_1]
 refine wpAnyH_done (by kernel_rfl) ?_ _
 refine NoPanic.normal ?_
 refine ⟨rfl, .panicking [{ v := .iface 198 (.agg #[.pointer (some ⟨g, 0, none⟩)]), recovered := true }], rfl, .tuple #[], ?_, rfl, rfl, HQ.out.1, HQ.out.2.1, HQ.out.2.2⟩
 simp [results, Tryz.results110]
structure BegunR (w W : World) (z : Array Value) (tz : TypeId) (A1 : Option Addr) (n c : Nat) : Prop where
 up : Up w W
 sz : W.heap.size = w.heap.size + 4
 b0 : W.heap[w.heap.size]? = some (.cells z tz (0, 0))
 b1 : W.heap[w.heap.size + 1]? = some (.cells #[.bool false, .slice none 0 0, .slice none 0 0, .slice none 0 0] 161 (0, 0))
 b2 : W.heap[w.heap.size + 1 + 1]? = some (.cells #[.int .i64 1, .slice A1 n c, .slice none 0 0, .slice none 0 0, .slice none 0 0] 196 (0, 0))
 b3 : W.heap[w.heap.size + 1 + 1 + 1]? = some (.cells #[.pointer (some ⟨w.heap.size + 1 + 1, 0, none⟩)] 164 (0, 0))
theorem begunR (w : World) (z : Array Value) (tz : TypeId) (A1 : Option Addr) (n c : Nat) :
 BegunR w ((((w.alloc (.cells z tz)).alloc (.cells #[.bool false, .slice none 0 0, .slice none 0 0, .slice none 0 0] 161)).alloc
  (.cells #[.int .i64 1, .slice A1 n c, .slice none 0 0, .slice none 0 0, .slice none 0 0] 196)).alloc (.cells #[.pointer (some ⟨w.heap.size + 1 + 1, 0, none⟩)] 164)) z tz A1 n c where
 up := ((((Up.refl w).alloc _).alloc _).alloc _).alloc _
 sz := by simp
 b0 := by
  rw [Below.heap_alloc _ _ _ (by simp; omega), Below.heap_alloc _ _ _ (by simp; omega), Below.heap_alloc _ _ _ (by simp)]
  exact heap_alloc_new w _
 b1 := by
  rw [Below.heap_alloc _ _ _ (by simp), Below.heap_alloc _ _ _ (by simp)]
  have := heap_alloc_new (w.alloc (.cells z tz)) (.cells #[.bool false, .slice none 0 0, .slice none 0 0, .slice none 0 0] 161)
  rw [World.size_alloc] at this
  exact this
 b2 := by
  rw [Below.heap_alloc _ _ _ (by simp)]
  have := heap_alloc_new ((w.alloc (.cells z tz)).alloc (.cells #[.bool false, .slice none 0 0, .slice none 0 0, .slice none 0 0] 161)) (.cells #[.int .i64 1, .slice A1 n c, .slice none 0 0, .slice none 0 0, .slice none 0 0] 196)
  rw [World.size_alloc, World.size_alloc] at this
  exact this
 b3 := by
  have := heap_alloc_new (((w.alloc (.cells z tz)).alloc (.cells #[.bool false, .slice none 0 0, .slice none 0 0, .slice none 0 0] 161)).alloc (.cells #[.int .i64 1, .slice A1 n c, .slice none 0 0, .slice none 0 0, .slice none 0 0] 196)) (.cells #[.pointer (some ⟨w.heap.size + 1 + 1, 0, none⟩)] 164)
  rw [World.size_alloc, World.size_alloc, World.size_alloc] at this
  exact this
theorem begun_tapeR {w W W1 : World} {z : Array Value} {tz : TypeId} {A1 : Option Addr} {c : Nat} {ans loc : List Int} {v : Value} (h : BegunR w W z tz A1 ans.length c) (hr1 : Row w A1 ans.length (IVal ans)) (hl0 : loc.length ≤ 32768) (hl1 : ans.length ≤ 5000)
 (hU : Up W W1) (hown : W1.ownsRow W.heap.size 3 1 v loc.length (icells loc)) :
 Tape1 (W1.setCell ⟨w.heap.size + 1 + 1, 2, none⟩ v) (w.heap.size + 1 + 1) (w.heap.size + 4) ⟨ans, loc, [], []⟩ := by
 have hs := h.sz
 have hkeep : ∀ k, k < W.heap.size → k ≠ w.heap.size + 1 + 1 → (W1.setCell ⟨w.heap.size + 1 + 1, 2, none⟩ v).heap[k]? = W.heap[k]? := fun k hk hne => (Below.heap_setCell W1 ⟨w.heap.size + 1 + 1, 2, none⟩ v k hne).trans (hU.block k hk)
 have hb2 := (hU.block (w.heap.size + 1 + 1) (by omega)).trans h.b2
 have hc : ∀ j, j ≠ 2 → (W1.setCell ⟨w.heap.size + 1 + 1, 2, none⟩ v).cell? ⟨w.heap.size + 1 + 1, j, none⟩ = W1.cell? ⟨w.heap.size + 1 + 1, j, none⟩ := fun j hj => World.cell?_setCell_other _ _ _ _ (by simp <;> omega)
 have hcj : ∀ j, W1.cell? ⟨w.heap.size + 1 + 1, j, none⟩ = #[Value.int .i64 1, .slice A1 ans.length c, .slice none 0 0, .slice none 0 0, .slice none 0 0][j]? := fun j => cell_of_row W1 _ j _ _ _ hb2
 refine ⟨⟨by omega, by have := hU.size; simp; omega, (hc 0 (by decide)).trans (hcj 0), fun j => ?_, ⟨A1, c, (hc 1 (by decide)).trans (hcj 1), ?_, ?_⟩, ⟨v, World.cell?_setCell_same _ _ _ (hcj 2), ?_⟩, ⟨_, (hc 3 (by decide)).trans (hcj 3), World.ownsRow_nil _ _ _ _⟩, ⟨_, (hc 4 (by decide)).trans (hcj 4), World.ownsRow_nil _ _ _ _⟩, by simp, by simp only; omega, by simp only; omega⟩, by simp⟩
 · have := frozen_of_row W1 (w.heap.size + 1 + 1) j _ _ hb2
   simpa [go_sem] using this
 · refine row_keep (hr1.up h.up) (fun b off e hp => ?_)
   obtain ⟨b', off', e', hcell⟩ := hr1 0 hp
   rw [e] at e'
   cases e'
   have hlt := cell_lt hcell
   exact hkeep b (by omega) (by omega)
 · intro b off e hp
   obtain ⟨b', off', e', hcell⟩ := hr1 0 hp
   rw [e] at e'
   cases e'
   have hlt := cell_lt hcell
   omega
 · rw [hs] at hown
   exact own_keep hown (fun k cs hB _ => Below.heap_setCell W1 ⟨w.heap.size + 1 + 1, 2, none⟩ v k (by simp; omega))
structure EndedR (w W5 : World) (v : Array Value) (t : TypeId) (s' : TS) : Prop where
 tp : Tape1 W5 (w.heap.size + 1 + 1) (w.heap.size + 4) s'
 go : W5.heap[w.heap.size]? = some (.cells v t (0, 0))
 ou : W5.heap[w.heap.size + 1]? = some (.cells #[.bool false, .slice none 0 0, .slice none 0 0, .slice none 0 0] 161 (0, 0))
 pt : W5.cell? ⟨w.heap.size + 1 + 1 + 1, 0, none⟩ = some (.pointer (some ⟨w.heap.size + 1 + 1, 0, none⟩))
 be : Below w.heap.size w W5
 sz : w.heap.size + 3 < W5.heap.size
theorem endedR {w W4 : World} {v0 v1 : Value} {t : TypeId} {s' : TS} (hT : Tape1 W4 (w.heap.size + 1 + 1) (w.heap.size + 4) s') (hZ : W4.heap[w.heap.size]? = some (.cells #[v0, v1] t (0, 0)))
 (hO : W4.heap[w.heap.size + 1]? = some (.cells #[.bool false, .slice none 0 0, .slice none 0 0, .slice none 0 0] 161 (0, 0)))
 (hP : W4.cell? ⟨w.heap.size + 1 + 1 + 1, 0, none⟩ = some (.pointer (some ⟨w.heap.size + 1 + 1, 0, none⟩))) (hbe : Below w.heap.size w W4) (hsz : w.heap.size + 4 ≤ W4.heap.size) :
 EndedR w ((((((put2 W4 w.heap.size v0 v1).setCell ⟨w.heap.size + 1, 0, none⟩ (.bool false)).setCell ⟨w.heap.size + 1, 1, none⟩ (.slice none 0 0)).setCell ⟨w.heap.size + 1, 2, none⟩ (.slice none 0 0)).setCell ⟨w.heap.size + 1, 3, none⟩ (.slice none 0 0)).drew) #[v0, v1] t s' := by
 have hk1 : ∀ k, k ≠ w.heap.size → (put2 W4 w.heap.size v0 v1).heap[k]? = W4.heap[k]? := fun k hk => put2_other W4 w.heap.size k _ _ hk
 have hq1 := (hk1 (w.heap.size + 1) (by omega)).trans hO
 have hs1 : (put2 W4 w.heap.size v0 v1).heap.size = W4.heap.size := by simp [put2]
 have e : ((((((put2 W4 w.heap.size v0 v1).setCell ⟨w.heap.size + 1, 0, none⟩ (.bool false)).setCell ⟨w.heap.size + 1, 1, none⟩ (.slice none 0 0)).setCell ⟨w.heap.size + 1, 2, none⟩ (.slice none 0 0)).setCell ⟨w.heap.size + 1, 3, none⟩ (.slice none 0 0)).drew) = (put4 (put2 W4 w.heap.size v0 v1) (w.heap.size + 1) (.bool false) (.slice none 0 0) (.slice none 0 0) (.slice none 0 0)).drew := rfl
 rw [e]
 have hs2 : (put4 (put2 W4 w.heap.size v0 v1) (w.heap.size + 1) (.bool false) (.slice none 0 0) (.slice none 0 0) (.slice none 0 0)).heap.size = W4.heap.size := by simp [put4, put2]
 have hk2 : ∀ k, k ≠ w.heap.size + 1 → (put4 (put2 W4 w.heap.size v0 v1) (w.heap.size + 1) (.bool false) (.slice none 0 0) (.slice none 0 0) (.slice none 0 0)).heap[k]? = (put2 W4 w.heap.size v0 v1).heap[k]? := fun k hk => put4_other _ _ _ _ _ _ _ hk
 have hsame := put4_same (.bool false) (.slice none 0 0) (.slice none 0 0) (.slice none 0 0) hq1
 have hpb := put4_below (put2 W4 w.heap.size v0 v1) (w.heap.size + 1) w.heap.size (.bool false) (.slice none 0 0) (.slice none 0 0) (.slice none 0 0) (by omega)
 clear e
 generalize put4 (put2 W4 w.heap.size v0 v1) (w.heap.size + 1) (.bool false) (.slice none 0 0) (.slice none 0 0) (.slice none 0 0) = W5 at *
 have h1 := hT.1.low (b := w.heap.size) (w' := put2 W4 w.heap.size v0 v1) (by omega) (by omega) (by omega) (fun k _ hne => hk1 k hne)
 have h2 := h1.low (b := w.heap.size + 1) (w' := W5) (by omega) (by omega) (by omega) (fun k _ hne => hk2 k hne)
 exact ⟨⟨h2.drew, hT.2⟩, (hk2 _ (by omega)).trans (put2_same v0 v1 hZ), hsame, (tcell ((hk2 _ (by omega)).trans (hk1 _ (by omega)))).trans hP, ((hbe.trans (put2_below W4 w.heap.size w.heap.size v0 v1 (Nat.le_refl _))).trans hpb).drew, by show _ < W5.heap.size; omega⟩
def encR (r : Int × Int) : Value := .agg #[.int .i64 r.1, .int .i64 r.2]
def encR0 : Value := .int .i64 0
theorem playR (F : Nat) (cap : Array Value) (p : TS → Option (Int × Int) × TS) (loc ans : List Int) (A0 A1 : Option Addr) (c0 c1 : Nat) (w : World) (hA0 : A0 = none → c0 = 0) (hl0 : loc.length ≤ 32768) (hl1 : ans.length ≤ 5000)
 (hr0 : Row w A0 loc.length (IVal loc)) (hr1 : Row w A1 ans.length (IVal ans)) (hc0 : loc.length ≤ c0)
 (hcf : ∀ (args : Array Value) (W : World), (callFunc F args).run Tryz.prog W = .ok (.enter F args) W)
 (hdo : ∀ (W : World) (g B : Nat), Up w W → w.heap.size ≤ g → Tape1 W g B ⟨ans, loc, [], []⟩ → Calls Tryz.prog F (#[.pointer (some ⟨g, 0, none⟩)] ++ cap) W (TPost encR g B W (p ⟨ans, loc, [], []⟩))) :
 Calls Tryz.prog 82 #[.func (.func F) #[] cap, .slice A0 loc.length c0, .slice A1 ans.length c1] w fun e w' =>
  ∃ ov, e = .returned (.tuple #[encR ((p ⟨ans, loc, [], []⟩).1.getD (0, 0)), ov]) ∧ OutL w.heap.size w' ov (p ⟨ans, loc, [], []⟩).1.isSome (p ⟨ans, loc, [], []⟩).2 ∧ Up w w' := by
 have hmf : ∀ (fn : Fn) (first cap : Array Value) (w : World), (Instr.makeFunc fn first cap).run Tryz.prog w = .ok (.func fn first cap) w := fun _ _ _ _ => rfl
 obtain ⟨r, hr⟩ : ∃ r, p ⟨ans, loc, [], []⟩ = r := ⟨_, rfl⟩
 rw [hr] at hdo ⊢
 obtain ⟨ro, s'⟩ := r
 clear hr
 have HCL := hQ' (fun (W : World) (hU : Up w W) => clone_any loc A0 c0 W hA0 (hr0.up hU) (by omega))
 have HBG := hQ' (begunR w #[.int .i64 0, .int .i64 0] 58 A1 ans.length c1)
 have HBT := hQ' (fun (W W1 : World) (v : Value) (h : BegunR w W #[.int .i64 0, .int .i64 0] 58 A1 ans.length c1) => begun_tapeR (W1 := W1) (v := v) h hr1 hl0 hl1)
 have HDO := hQ' hdo
 obtain ⟨n0, hn0⟩ : ∃ n, loc.length = n := ⟨_, rfl⟩
 obtain ⟨n1, hn1⟩ : ∃ n, ans.length = n := ⟨_, rfl⟩
 rw [hn0] at hl0 hc0 HCL HBT ⊢
 rw [hn1] at HBG HBT ⊢
 clear hdo hr0 hr1 hn0 hn1 hA0 hl1
 have hi0 : (0 : Int) ≤ (n0 : Int) := by omega
 have hi1 : (n0 : Int) ≤ (c0 : Int) := by omega
 have hi2 : ((32768 : Int) < (n0 : Int)) = False := by simp; omega
 have hmin : min (n0 : Int) 32768 = n0 := by omega
 go_enter_defers Tryz.func82, Tryz.ntmps82
 go_wp2_with fail
 obtain ⟨W0, hW0⟩ : ∃ W0, ((((w.alloc (.cells #[.int .i64 0, .int .i64 0] 58)).alloc (.cells #[.bool false, .slice none 0 0, .slice none 0 0, .slice none 0 0] 161)).alloc
  (.cells #[.int .i64 1, .slice A1 n1 c1, .slice none 0 0, .slice none 0 0, .slice none 0 0] 196)).alloc (.cells #[.pointer (some ⟨w.heap.size + 1 + 1, 0, none⟩)] 164)) = W0 := ⟨_, rfl⟩
 rw [hW0] at HBG ⊢
 clear hW0
 have hd3 : W0.drew.cell? ⟨w.heap.size + 1 + 1 + 1, 0, none⟩ = some (.pointer (some ⟨w.heap.size + 1 + 1, 0, none⟩)) := cell_of_one HBG.out.b3
 have hd2 : W0.drew.cell? ⟨w.heap.size + 1 + 1, 2, none⟩ = some (.slice none 0 0) := cell_of_row W0 _ 2 _ _ _ HBG.out.b2
 have hf2 : W0.drew.frozen? ⟨w.heap.size + 1 + 1, 2, none⟩ = false := frozen_of_row W0 _ 2 _ _ HBG.out.b2
 have hUW : Up w W0.drew := HBG.out.up.drew
 have HD2 := hQ' hd2
 have HF2 := hQ' hf2
 clear hd2 hf2
 refine wp_region_noPanic ?_
 refine wp_region_held_drew (S := fun w' => w'.cell? ⟨w.heap.size + 1 + 1 + 1, 0, none⟩ = some (.pointer (some ⟨w.heap.size + 1 + 1, 0, none⟩))) (by kernel_rfl) hd3 (fun hH0 => ?_)
 refine tkE 0 ?_ rfl (by kernel_rfl) (fun _ _ _ h => h) hH0 ?_ ?_
 rotate_left
 · intro w hSw
   try dsimp only at hSw
   go_simp
   try (with_reducible rfl)
 try simp only [Act.put, sC_I, sC_0, sC_1]
 refine tkE 1 ?_ rfl (by kernel_rfl) (fun _ _ _ h => h) hH0 ?_ ?_
 rotate_left
 · intro w hSw
   try dsimp only at hSw
   go_simp
   try (with_reducible rfl)
 try simp only [Act.put, sC_I, sC_0, sC_1]
 refine tkE 2 ?_ rfl (by kernel_rfl) (fun _ _ _ h => h) hH0 ?_ ?_
 rotate_left
 · intro w hSw
   try dsimp only at hSw
   go_simp
   try (with_reducible rfl)
 try simp only [Act.put, sC_I, sC_0, sC_1]
 refine tkE 3 ?_ rfl (by kernel_rfl) (fun _ _ _ h => h) hH0 ?_ ?_
 rotate_left
 · intro w hSw
   try dsimp only at hSw
   go_simp
   try (with_reducible rfl)
 try simp only [Act.put, sC_I, sC_0, sC_1]
 refine tkE 4 ?_ rfl (by kernel_rfl) (fun _ _ _ h => h) hH0 ?_ ?_
 rotate_left
 · intro w hSw
   try dsimp only at hSw
   go_simp
   try (with_reducible rfl)
 try simp only [Act.put, sC_I, sC_0, sC_1]
 refine tkE 5 ?_ rfl (by kernel_rfl) (fun _ _ _ h => h) hH0 ?_ ?_
 rotate_left
 · intro w hSw
   try dsimp only at hSw
   go_simp
   try (with_reducible rfl)
 try simp only [Act.put, sC_I, sC_0, sC_1]
 refine rdE 6 (by kernel_rfl) rfl fun K hK => ?_
 go_simp
 refine (HCL.out W0.drew hUW).mono ?_
 rintro e w1 ⟨v, rfl, h1, h2⟩
 obtain ⟨vA, vc, rfl, _, _⟩ := own_form h1
 have H1 := hQ' h1
 have H2 := hQ' h2
 have hS1 := (h2.cell (p := ⟨w.heap.size + 1 + 1 + 1, 0, none⟩) (cell_lt hd3)).trans hd3
 have hS2 := (h2.cell (p := ⟨w.heap.size + 1 + 1, 2, none⟩) (cell_lt HD2.out)).trans HD2.out
 have hS3 := (h2.frozen (p := ⟨w.heap.size + 1 + 1, 2, none⟩) (cell_lt HD2.out)).trans HF2.out
 clear h1 h2
 refine hK.out _ _ hS1 (fun hH1 => ?_)
 clear hK K
 try simp only [Act.put, sC_I, sC_0, sC_1]
 refine tkE 7 ?_ rfl (by kernel_rfl) (fun _ _ _ h => h) hH1 ?_ ?_
 rotate_left
 · intro w hSw
   try dsimp only at hSw
   go_simp
   try (with_reducible rfl)
 try simp only [Act.put, sC_I, sC_0, sC_1]
 refine tkE 8 ?_ rfl (by kernel_rfl) (fun _ _ _ h => h) hH1 ?_ ?_
 rotate_left
 · intro w hSw
   try dsimp only at hSw
   go_simp
   try (with_reducible rfl)
 try simp only [Act.put, sC_I, sC_0, sC_1]
 refine rdE 9 (by kernel_rfl) rfl fun K hK => ?_
 go_simp
 refine hK.out _ _ ((World.cell?_setCell_other _ _ _ _ (by simp)).trans hS1) (fun hH2 => ?_)
 clear hK K
 try simp only [Act.put, sC_I, sC_0, sC_1]
 refine wpAnyH_done (by kernel_rfl) ?_ _
 refine NoPanic.normal ?_
 have HT := hQ' (HBT.out W0.drew w1 _ (by exact ⟨HBG.out.up.drew, HBG.out.sz, HBG.out.b0, HBG.out.b1, HBG.out.b2, HBG.out.b3⟩) H2.out H1.out)
 have hb0 : (w1.setCell ⟨w.heap.size + 1 + 1, 2, none⟩ (.slice vA n0 vc)).heap[w.heap.size]? = some (.cells #[.int .i64 0, .int .i64 0] 58 (0, 0)) := (Below.heap_setCell _ _ _ _ (by simp; omega)).trans ((H2.out.block _ (by have := HBG.out.sz; simp; omega)).trans HBG.out.b0)
 have hb1 : (w1.setCell ⟨w.heap.size + 1 + 1, 2, none⟩ (.slice vA n0 vc)).heap[w.heap.size + 1]? = some (.cells #[.bool false, .slice none 0 0, .slice none 0 0, .slice none 0 0] 161 (0, 0)) := (Below.heap_setCell _ _ _ _ (by simp)).trans ((H2.out.block _ (by have := HBG.out.sz; simp; omega)).trans HBG.out.b1)
 have hb3 : (w1.setCell ⟨w.heap.size + 1 + 1, 2, none⟩ (.slice vA n0 vc)).heap[w.heap.size + 1 + 1 + 1]? = some (.cells #[.pointer (some ⟨w.heap.size + 1 + 1, 0, none⟩)] 164 (0, 0)) := (Below.heap_setCell _ _ _ _ (by simp)).trans ((H2.out.block _ (by have := HBG.out.sz; simp; omega)).trans HBG.out.b3)
 have HU2 := hQ' (show Up w (w1.setCell ⟨w.heap.size + 1 + 1, 2, none⟩ (.slice vA n0 vc)) from (hUW.trans H2.out).setCell (p := ⟨w.heap.size + 1 + 1, 2, none⟩) (by simp; omega) _)
 generalize w1.setCell ⟨w.heap.size + 1 + 1, 2, none⟩ (.slice vA n0 vc) = W2 at *
 clear hS1 hS2 hS3 hd3 HD2 HF2 H1 H2 HBG HBT hUW HCL
 have HB0 := hQ' hb0
 have HB1 := hQ' hb1
 have hc3 := cell_of_one hb3
 clear hb0 hb1 hb3
 have hneq : ∀ W : World, (binOp .neq 166 (.func (.func F) #[] cap) .nilFunc).run Tryz.prog W = .ok (.bool true) W := fun _ => by kernel_rfl
 go_wp2_with fail
 cases ro with
 | some v =>
  obtain ⟨v, u⟩ := v
  refine (HDO.out W2 _ _ HU2.out (by omega) HT.out).mono ?_
  intro e w' q
  obtain ⟨rfl, hT, hK⟩ := q.of_some rfl
  have hz1 := (hK.block w.heap.size (by have := HT.out.1.sz; omega) (by omega) (Far.low (by omega))).trans HB0.out
  have ho1 := (hK.block (w.heap.size + 1) (by have := HT.out.1.sz; omega) (by omega) (Far.low (by omega))).trans HB1.out
  have hp1 := (tcell (o := 0) (hK.block (w.heap.size + 1 + 1 + 1) (by have := HT.out.1.sz; omega) (by omega) (Far.low (by omega)))).trans hc3
  have hbe : Below w.heap.size w w' := Below.trans (show Below w.heap.size w W2 from HU2.out) (hK.below (N := w.heap.size) (by omega) (by omega) (by have := HT.out.1.sz; omega))
  have hsz : w.heap.size + 4 ≤ w'.heap.size := hT.1.sz
  have hk : ∀ k, k ≠ w.heap.size → (put2 w' w.heap.size (.int .i64 v) (.int .i64 u)).heap[k]? = w'.heap[k]? := fun k hk => put2_other w' w.heap.size k _ _ hk
  have hT2 : Tape1 (put2 w' w.heap.size (.int .i64 v) (.int .i64 u)) (w.heap.size + 1 + 1) (w.heap.size + 4) s' := ⟨hT.1.low (b := w.heap.size) (by omega) (by omega) (by simp [put2]) (fun k _ hne => hk k hne), hT.2⟩
  have hz2 := put2_same (.int .i64 v) (.int .i64 u) hz1
  have ho2 := (hk (w.heap.size + 1) (by omega)).trans ho1
  have hp2 := (tcell (o := 0) (hk (w.heap.size + 1 + 1 + 1) (by omega))).trans hp1
  have hbe2 := hbe.trans (put2_below w' w.heap.size w.heap.size (.int .i64 v) (.int .i64 u) (Nat.le_refl _))
  have hsz2 : w.heap.size + 4 ≤ (put2 w' w.heap.size (.int .i64 v) (.int .i64 u)).heap.size := by simpa [put2] using hsz
  have kN := cell_of_row w' w.heap.size 0 _ _ _ hz1
  have kN1 := cell_of_row w' w.heap.size 1 _ _ _ hz1
  simp only [gA_T, gA_0, gA_S] at kN kN1
  have fN := frozen_of_row w' w.heap.size 0 _ _ hz1
  have fN1 := frozen_of_row w' w.heap.size 1 _ _ hz1
  unfold encR
  clear hk
  have HT2 := hQ' hT2
  have HZ2 := hQ' hz2
  have HO2 := hQ' ho2
  have HP2 := hQ' hp2
  have HBE2 := hQ' hbe2
  have HSZ2 := hQ' hsz2
  clear hT2 hz2 ho2 hp2 hbe2 hsz2 hT hK hz1 ho1 hp1 hbe hsz q
  go_wp2_with fail
  rw [show (w'.setCell ⟨w.heap.size, 0, none⟩ (.int .i64 v)).setCell ⟨w.heap.size, 1, none⟩ (.int .i64 u) = put2 w' w.heap.size (.int .i64 v) (.int .i64 u) from rfl]
  generalize put2 w' w.heap.size (.int .i64 v) (.int .i64 u) = W4 at *
  have hl0 : W4.cell? ⟨w.heap.size, 0, none⟩ = some (.int .i64 v) := cell_of_row W4 _ 0 _ _ _ HZ2.out
  have hl1 : W4.cell? ⟨w.heap.size, 1, none⟩ = some (.int .i64 u) := cell_of_row W4 _ 1 _ _ _ HZ2.out
  have hm0 : W4.cell? ⟨w.heap.size + 1, 0, none⟩ = some (.bool false) := cell_of_row W4 _ 0 _ _ _ HO2.out
  have hm1 : W4.cell? ⟨w.heap.size + 1, 1, none⟩ = some (.slice none 0 0) := cell_of_row W4 _ 1 _ _ _ HO2.out
  have hm2 : W4.cell? ⟨w.heap.size + 1, 2, none⟩ = some (.slice none 0 0) := cell_of_row W4 _ 2 _ _ _ HO2.out
  have hm3 : W4.cell? ⟨w.heap.size + 1, 3, none⟩ = some (.slice none 0 0) := cell_of_row W4 _ 3 _ _ _ HO2.out
  have hfN : W4.frozen? ⟨w.heap.size, 0, none⟩ = false := frozen_of_row W4 _ 0 _ _ HZ2.out
  have hfN1 : W4.frozen? ⟨w.heap.size, 1, none⟩ = false := frozen_of_row W4 _ 1 _ _ HZ2.out
  have hf0 : ∀ j, W4.frozen? ⟨w.heap.size + 1, j, none⟩ = false := fun j => frozen_of_row W4 _ j _ _ HO2.out
  have hg0 := hf0 0
  have hg1 := hf0 1
  have hg2 := hf0 2
  have hg3 := hf0 3
  clear hf0 kN fN kN1 fN1 hc3
  refine wp_region_noPanic ?_
  go_region
  refine NoPanic.normal ?_
  have HE := hQ' (endedR HT2.out HZ2.out HO2.out HP2.out HBE2.out HSZ2.out)
  clear hl0 hl1 hm0 hm1 hm2 hm3 hfN hfN1 hg0 hg1 hg2 hg3 HT2 HZ2 HO2 HP2 HBE2 HSZ2 HT HU2 HB0 HB1 HDO
  rw [show (((((((W4.setCell ⟨w.heap.size, 0, none⟩ (.int .i64 v)).setCell ⟨w.heap.size, 1, none⟩ (.int .i64 u)).setCell ⟨w.heap.size + 1, 0, none⟩ (.bool false)).setCell ⟨w.heap.size + 1, 1, none⟩ (.slice none 0 0)).setCell ⟨w.heap.size + 1, 2, none⟩ (.slice none 0 0)).setCell ⟨w.heap.size + 1, 3, none⟩ (.slice none 0 0)).drew) = ((((((put2 W4 w.heap.size (.int .i64 v) (.int .i64 u)).setCell ⟨w.heap.size + 1, 0, none⟩ (.bool false)).setCell ⟨w.heap.size + 1, 1, none⟩ (.slice none 0 0)).setCell ⟨w.heap.size + 1, 2, none⟩ (.slice none 0 0)).setCell ⟨w.heap.size + 1, 3, none⟩ (.slice none 0 0)).drew) from rfl]
  generalize ((((((put2 W4 w.heap.size (.int .i64 v) (.int .i64 u)).setCell ⟨w.heap.size + 1, 0, none⟩ (.bool false)).setCell ⟨w.heap.size + 1, 1, none⟩ (.slice none 0 0)).setCell ⟨w.heap.size + 1, 2, none⟩ (.slice none 0 0)).setCell ⟨w.heap.size + 1, 3, none⟩ (.slice none 0 0)).drew) = W5 at *
  go_wp2_with fail
  refine leaves_cons (f := 110) (args := #[.pointer (some ⟨w.heap.size + 1 + 1 + 1, 0, none⟩), .pointer (some ⟨w.heap.size, 0, none⟩), .pointer (some ⟨w.heap.size + 1, 0, none⟩)]) (by simp) (by simp [go_sem]) ?_
  refine (door_okR w.heap.size (w.heap.size + 1 + 1) (w.heap.size + 4) encR0 s' W5 HE.out.tp (by omega) (by omega) (by omega) HE.out.sz HE.out.pt HE.out.ou).mono ?_
  rintro e u' w9 ⟨rfl, rfl, hout, hN9, hb9⟩
  obtain ⟨A, c, N', d, L, e', hblk, hr1, hr2, hr3, hr4⟩ := hout
  have k0 := cell_of_row w9 _ 0 _ _ _ (hN9.trans HE.out.go)
  have k1 := cell_of_row w9 _ 1 _ _ _ (hN9.trans HE.out.go)
  have j0 := cell_of_row w9 _ 0 _ _ _ hblk
  have j1 := cell_of_row w9 _ 1 _ _ _ hblk
  have j2 := cell_of_row w9 _ 2 _ _ _ hblk
  have j3 := cell_of_row w9 _ 3 _ _ _ hblk
  simp only [gA_T, gA_0, gA_S] at j0 j1 j2 j3 k0 k1
  have HF := hQ' (show OutL w.heap.size w9 (.agg #[.bool true, .slice A s'.acc.length c, .slice N' s'.nts.length d, .slice L (shortL s'.loc).length e']) true s' from ⟨A, c, N', d, L, e', rfl, hr1, hr2, hr3, hr4⟩)
  have HB := hQ' (HE.out.be.trans hb9)
  clear hblk hr1 hr2 hr3 hr4 hb9 hN9
  simp [Leaves, settle, results, Tryz.results82, go_sem, encR, k0, k1, j0, j1, j2, j3]
  exact ⟨HF.out, HB.out⟩
 | none =>
  refine (HDO.out W2 _ _ HU2.out (by omega) HT.out).mono ?_
  intro e w' q
  obtain ⟨rfl, hT, hK⟩ := q.of_none rfl
  have hz1 := (hK.block w.heap.size (by have := HT.out.1.sz; omega) (by omega) (Far.low (by omega))).trans HB0.out
  have ho1 := (hK.block (w.heap.size + 1) (by have := HT.out.1.sz; omega) (by omega) (Far.low (by omega))).trans HB1.out
  have hp1 := (tcell (o := 0) (hK.block (w.heap.size + 1 + 1 + 1) (by have := HT.out.1.sz; omega) (by omega) (Far.low (by omega)))).trans hc3
  have hbe : Below w.heap.size w w' := Below.trans (show Below w.heap.size w W2 from HU2.out) (hK.below (N := w.heap.size) (by omega) (by omega) (by have := HT.out.1.sz; omega))
  have hsz : w.heap.size + 4 ≤ w'.heap.size := hT.sz
  have HT2 := hQ' hT
  have HZ2 := hQ' hz1
  have HO2 := hQ' ho1
  have HP2 := hQ' hp1
  have HBE2 := hQ' hbe
  have HSZ2 := hQ' hsz
  clear hT hK hz1 ho1 hp1 hbe hsz q hc3 HT HU2 HB0 HB1 HDO
  go_wp2_with fail
  refine leaves_cons (f := 110) (args := #[.pointer (some ⟨w.heap.size + 1 + 1 + 1, 0, none⟩), .pointer (some ⟨w.heap.size, 0, none⟩), .pointer (some ⟨w.heap.size + 1, 0, none⟩)]) (by simp) (by simp [go_sem]) ?_
  refine (door_stopR w.heap.size (w.heap.size + 1 + 1) (w.heap.size + 4) encR0 s' w' HT2.out (by omega) (by omega) (by omega) (by have := HSZ2.out; omega) HP2.out HZ2.out HO2.out).mono ?_
  rintro e u' w9 ⟨rfl, rfl, hout, hN9, hb9⟩
  obtain ⟨A, c, N', d, L, e', hblk, hr1, hr2, hr3, hr4⟩ := hout
  have k0 := cell_of_row w9 _ 0 _ _ _ hN9
  have k1 := cell_of_row w9 _ 1 _ _ _ hN9
  have j0 := cell_of_row w9 _ 0 _ _ _ hblk
  have j1 := cell_of_row w9 _ 1 _ _ _ hblk
  have j2 := cell_of_row w9 _ 2 _ _ _ hblk
  have j3 := cell_of_row w9 _ 3 _ _ _ hblk
  simp only [gA_T, gA_0, gA_S] at j0 j1 j2 j3 k0 k1
  have HF := hQ' (show OutL w.heap.size w9 (.agg #[.bool false, .slice A s'.acc.length c, .slice N' s'.nts.length d, .slice L (shortL s'.loc).length e']) false s' from ⟨A, c, N', d, L, e', rfl, hr1, hr2, hr3, hr4⟩)
  have HB := hQ' (HBE2.out.trans hb9)
  clear hblk hr1 hr2 hr3 hr4 hb9 hN9
  simp [Leaves, settle, results, Tryz.results82, go_sem, encR, k0, k1, j0, j1, j2, j3]
  exact ⟨HF.out, HB.out⟩
end Go.Proofs.YtpodgcpkccpnfaaGreat

