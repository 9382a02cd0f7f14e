/-
  Parts of a proof, packed: LibD, LibE
-/
import Derived.Deep.DeepCutAuto
import Derived.Test.YtpodgcpkccpnfaaGreatPk01
import Derived.Test.YtpodgcpkccpnfaaGreatPk07
import Derived.Test.YtpodgcpkccpnfaaGreatPk21
set_option linter.unusedVariables false
set_option linter.unusedSimpArgs false
set_option maxRecDepth 20000
set_option maxHeartbeats 16000000
namespace Go.Proofs.YtpodgcpkccpnfaaGreat
open Go.RowKit
theorem parts_one (w : World) : Calls Tryz.prog 103 #[.int .i64 1] w fun e w' => e = .returned (.tuple #[.slice none 0 0, .int .i64 1]) ∧ w' = w := by
 go_enter Tryz.func103, Tryz.ntmps103
 go_wp2_with fail
 go_ret2
 exact ⟨rfl, rfl⟩
theorem libCount_nil (w : World) : Calls Tryz.prog 76 #[.slice none 0 0] w fun e w' => e = .returned (.int .i64 0) ∧ w' = w := by
 go_enter Tryz.func76, Tryz.ntmps76
 go_wp2_with fail
 go_loopw [3, 8] (fun s x wr => x = .int .i64 0 ∧ s = .int .i64 0 ∧ wr = w) (fun _ _ _ => 0)
 case atStart => exact ⟨rfl, rfl, rfl⟩
 case round =>
  obtain ⟨rfl, rfl, rfl⟩ := hrel
  go_wp2_with fail
  go_ret
  exact ⟨rfl, rfl⟩
def putL (w : World) (b : Nat) : Nat → List Value → World
 | _, [] => w
 | i, v :: vs => putL (w.setCell ⟨b, i, none⟩ v) b (i + 1) vs
theorem putL_below {b N : Nat} (hb : N ≤ b) : ∀ (vs : List Value) (i : Nat) (w0 w : World), Below N w0 w → Below N w0 (putL w b i vs)
 | [], i, w0, w, h => h
 | v :: vs, i, w0, w, h => putL_below hb vs (i + 1) w0 _ (h.setCell (p := ⟨b, i, none⟩) hb v)
theorem putL_other {b k : Nat} (hk : k ≠ b) : ∀ (vs : List Value) (i : Nat) (w : World), (putL w b i vs).heap[k]? = w.heap[k]?
 | [], i, w => rfl
 | v :: vs, i, w => (putL_other hk vs (i + 1) _).trans (Below.heap_setCell w ⟨b, i, none⟩ v k hk)
theorem step_store_row {P : Program} {ops : Array Oper} {o : Oper} {a : Act} {w : World} {K : Act → World → Prop} {Q : Exit → Act → World → Prop} {E : Prop} (hgd : o.guard = none) (ty : TypeId) (x y : Operand) (ho : o.op = .store ty x y)
 (g : Nat) (cells : Array Value) (hx : a.eval x = .pointer (some ⟨g, 0, none⟩)) (hy : a.eval y = .agg cells) (t : TypeId) (old : Array Value) (hg : w.heap[g]? = some (.cells old t (0, 0))) (hi : (P.info? ty).map (·.size) = some cells.size)
 (hold : old.size = cells.size) (h1 : cells.all (·.oneCell') = true) (h : K (a.put o.dst undef) (w.setRow g cells)) : if Region.wanted o (yielded ops a.tmps) = true then Oper.wp P o a w K Q else E := by
 have hw : Region.wanted o (yielded ops a.tmps) = true := by simp [Region.wanted, hgd]
 rw [if_pos hw]
 exact wp_store_row ty x y ho g cells hx hy t old hg hi hold h1 h
theorem up_row {N g : Nat} {w0 w : World} (hb : Below N w0 w) (hg : N ≤ g) (cs : Array Value) : Below N w0 (w.setRow g cs) :=
 hb.trans ⟨rfl, rfl, rfl, by simp, fun k hk => setRow_other w g k cs (by omega)⟩
theorem blk_cells {w : World} {b : Nat} {cs : Array Value} {t : TypeId} (h : w.heap[b]? = some (.cells cs t (0, 0))) (i : Nat) : w.cell? ⟨b, i, none⟩ = cs[i]? := cell_of_row _ _ i _ _ _ h
theorem blk_frozen {w : World} {b : Nat} {cs : Array Value} {t : TypeId} (h : w.heap[b]? = some (.cells cs t (0, 0))) (i : Nat) : w.frozen? ⟨b, i, none⟩ = false := frozen_of_row _ _ i _ _ h
structure LayB (w0 wr : World) (alg n base loc room z4 z5 z6 z7 : Int) (tb rb lb : Nat) : Prop where
 up : Up w0 wr
 tk : wr.heap[tb]? = some (.cells #[.int .i64 1, .int .i64 alg, .int .i64 1, .int .i64 room, .int .i64 z4, .int .i64 z5, .int .i64 z6, .int .i64 z7] 46 (0, 0))
 rk : wr.heap[rb]? = some (.cells #[.int .i64 0, .int .i64 0, .int .i64 0, .int .i64 0, .int .i64 0, .int .i64 0, .int .i64 0, .int .i64 0, .int .i64 0, .int .i64 0, .int .i64 0, .int .i64 0, .int .i64 0, .int .i64 0, .int .i64 0, .int .i64 0, .int .i64 0, .int .i64 0, .int .i64 0, .int .i64 0, .int .i64 0, .int .i64 0, .int .i64 0] 132 (0, 0))
 lk : wr.heap[lb]? = some (.cells #[.int .i64 alg, .int .i64 n, .int .i64 1, .int .i64 base, .int .i64 loc, .int .i64 room] 128 (0, 0))
 ge : w0.heap.size ≤ rb
section
variable {w0 wr w' : World} {alg n base loc room z4 z5 z6 z7 : Int} {tb rb lb : Nat}
theorem LayB.go (h : LayB w0 wr alg n base loc room z4 z5 z6 z7 tb rb lb) (u : Up wr w') : LayB w0 w' alg n base loc room z4 z5 z6 z7 tb rb lb :=
 ⟨h.up.trans u, (u.block _ (Array.getElem?_eq_some_iff.1 h.tk).1).trans h.tk, (u.block _ (Array.getElem?_eq_some_iff.1 h.rk).1).trans h.rk, (u.block _ (Array.getElem?_eq_some_iff.1 h.lk).1).trans h.lk, h.ge⟩
theorem LayB.put {zc : Nat} (h : LayB w0 wr alg n base loc room z4 z5 z6 z7 tb rb lb) (h0 : w0.heap.size ≤ zc) (h1 : zc ≠ tb) (h2 : zc ≠ rb) (h3 : zc ≠ lb) (vs : List Value) : LayB w0 (putL wr zc 0 vs) alg n base loc room z4 z5 z6 z7 tb rb lb :=
 ⟨putL_below h0 vs 0 _ _ h.up, (putL_other h1.symm vs 0 wr).trans h.tk, (putL_other h2.symm vs 0 wr).trans h.rk, (putL_other h3.symm vs 0 wr).trans h.lk, h.ge⟩
theorem LayB.row {zc : Nat} (h : LayB w0 wr alg n base loc room z4 z5 z6 z7 tb rb lb) (h0 : w0.heap.size ≤ zc) (h1 : zc ≠ tb) (h2 : zc ≠ rb) (h3 : zc ≠ lb) (vs : Array Value) : LayB w0 (wr.setRow zc vs) alg n base loc room z4 z5 z6 z7 tb rb lb :=
 ⟨up_row h.up h0 vs, (setRow_other wr zc tb vs h1.symm).trans h.tk, (setRow_other wr zc rb vs h2.symm).trans h.rk, (setRow_other wr zc lb vs h3.symm).trans h.lk, h.ge⟩
theorem LayB.cells (h : LayB w0 wr alg n base loc room z4 z5 z6 z7 tb rb lb) : (wr.cell? ⟨tb, 0, none⟩ = some (.int .i64 1) ∧ wr.cell? ⟨tb, 1, none⟩ = some (.int .i64 alg) ∧ wr.cell? ⟨tb, 2, none⟩ = some (.int .i64 1) ∧ wr.cell? ⟨tb, 3, none⟩ = some (.int .i64 room) ∧ wr.cell? ⟨tb, 4, none⟩ = some (.int .i64 z4) ∧ wr.cell? ⟨tb, 5, none⟩ = some (.int .i64 z5) ∧ wr.cell? ⟨tb, 6, none⟩ = some (.int .i64 z6) ∧ wr.cell? ⟨tb, 7, none⟩ = some (.int .i64 z7)) ∧ (wr.cell? ⟨lb, 0, none⟩ = some (.int .i64 alg) ∧ wr.cell? ⟨lb, 1, none⟩ = some (.int .i64 n) ∧ wr.cell? ⟨lb, 2, none⟩ = some (.int .i64 1) ∧ wr.cell? ⟨lb, 3, none⟩ = some (.int .i64 base) ∧ wr.cell? ⟨lb, 4, none⟩ = some (.int .i64 loc) ∧ wr.cell? ⟨lb, 5, none⟩ = some (.int .i64 room)) :=
 ⟨⟨blk_cells h.tk 0, blk_cells h.tk 1, blk_cells h.tk 2, blk_cells h.tk 3, blk_cells h.tk 4, blk_cells h.tk 5, blk_cells h.tk 6, blk_cells h.tk 7⟩, ⟨blk_cells h.lk 0, blk_cells h.lk 1, blk_cells h.lk 2, blk_cells h.lk 3, blk_cells h.lk 4, blk_cells h.lk 5⟩⟩
end
theorem layLock_any (alg n base loc room z4 z5 z6 z7 cl lo : Int) (w : World)
 (hF : ∀ W, Calls Tryz.prog 122 #[.agg #[.int .i64 alg, .int .i64 n, .int .i64 1, .int .i64 base, .int .i64 loc, .int .i64 room]] W fun e w' => e = .returned (.bool true) ∧ Up W w')
 (hC : ∀ W, Calls Tryz.prog 123 #[.agg #[.int .i64 alg, .int .i64 n, .int .i64 1, .int .i64 base, .int .i64 loc, .int .i64 room]] W fun e w' => e = .returned (.int .i64 cl) ∧ Up W w')
 (hL : ∀ W, Calls Tryz.prog 107 #[.agg #[.int .i64 alg, .int .i64 n, .int .i64 1, .int .i64 base, .int .i64 loc, .int .i64 room]] W fun e w' => e = .returned (.int .i64 lo) ∧ Up W w')
 (h1 : 0 ≤ base + cl ∧ base + cl ≤ 32768) (h2 : 0 ≤ loc + lo ∧ loc + lo + 1 ≤ 32768) :
 Calls Tryz.prog 96 #[.agg #[.int .i64 1, .int .i64 alg, .int .i64 1, .int .i64 room, .int .i64 z4, .int .i64 z5, .int .i64 z6, .int .i64 z7], .int .i64 n, .int .i64 base, .int .i64 loc] w fun e w' => e = .returned (.tuple #[.agg #[.int .i64 1, .int .i64 alg, .int .i64 1, .int .i64 room, .int .i64 z4, .int .i64 z5, .int .i64 z6, .int .i64 z7, .int .i64 alg, .int .i64 n, .int .i64 1, .int .i64 base, .int .i64 loc, .int .i64 room, .int .i64 0, .int .i64 0, .int .i64 0, .int .i64 0, .int .i64 0, .int .i64 0, .int .i64 0, .int .i64 (base + cl), .int .i64 (loc + lo)], .bool true]) ∧ Up w w' := by
 have HF := hQ' hF
 have HC := hQ' hC
 have HL := hQ' hL
 have HP := hQ' (fun W => parts_one W)
 have HCN := hQ' (fun W => show Calls Tryz.prog 76 #[.slice none 0 0] W (fun e w' => e = .returned (.int .i64 0) ∧ w' = W) from libCount_nil W)
 have w1 : wrap64 (base + cl) = base + cl := IntWalk.wrap64_in _ (by omega)
 have w2 : wrap64 (loc + lo) = loc + lo := IntWalk.wrap64_in _ (by omega)
 have v1 : IntKind.i64.wrap (base + cl) = base + cl := IntWalk.i64_in _ (by omega)
 have v2 : IntKind.i64.wrap (loc + lo) = loc + lo := IntWalk.i64_in _ (by omega)
 have v3 : IntKind.i64.wrap (loc + lo + 1) = loc + lo + 1 := IntWalk.i64_in _ (by omega)
 have v4 : IntKind.i64.wrap (base + cl + 0) = base + cl := by rw [Int.add_zero]; exact v1
 have w3 : wrap64 (loc + lo + 1) = loc + lo + 1 := IntWalk.wrap64_in _ (by omega)
 have f1 : ¬ (32768 < base + cl) := by omega
 have f2 : ¬ (32768 < loc + lo + 1) := by omega
 have HB := hQ' (show LayB w (((w.alloc (.cells #[.int .i64 1, .int .i64 alg, .int .i64 1, .int .i64 room, .int .i64 z4, .int .i64 z5, .int .i64 z6, .int .i64 z7] 46)).alloc (.cells #[.int .i64 0, .int .i64 0, .int .i64 0, .int .i64 0, .int .i64 0, .int .i64 0, .int .i64 0, .int .i64 0, .int .i64 0, .int .i64 0, .int .i64 0, .int .i64 0, .int .i64 0, .int .i64 0, .int .i64 0, .int .i64 0, .int .i64 0, .int .i64 0, .int .i64 0, .int .i64 0, .int .i64 0, .int .i64 0, .int .i64 0] 132)).alloc (.cells #[.int .i64 alg, .int .i64 n, .int .i64 1, .int .i64 base, .int .i64 loc, .int .i64 room] 128)) alg n base loc room z4 z5 z6 z7 w.heap.size (w.heap.size + 1) (w.heap.size + 1 + 1) from by
  have a := heap_alloc_new w (.cells #[.int .i64 1, .int .i64 alg, .int .i64 1, .int .i64 room, .int .i64 z4, .int .i64 z5, .int .i64 z6, .int .i64 z7] 46)
  have b := heap_alloc_new (w.alloc (.cells #[.int .i64 1, .int .i64 alg, .int .i64 1, .int .i64 room, .int .i64 z4, .int .i64 z5, .int .i64 z6, .int .i64 z7] 46)) (.cells #[.int .i64 0, .int .i64 0, .int .i64 0, .int .i64 0, .int .i64 0, .int .i64 0, .int .i64 0, .int .i64 0, .int .i64 0, .int .i64 0, .int .i64 0, .int .i64 0, .int .i64 0, .int .i64 0, .int .i64 0, .int .i64 0, .int .i64 0, .int .i64 0, .int .i64 0, .int .i64 0, .int .i64 0, .int .i64 0, .int .i64 0] 132)
  have c := heap_alloc_new ((w.alloc (.cells #[.int .i64 1, .int .i64 alg, .int .i64 1, .int .i64 room, .int .i64 z4, .int .i64 z5, .int .i64 z6, .int .i64 z7] 46)).alloc (.cells #[.int .i64 0, .int .i64 0, .int .i64 0, .int .i64 0, .int .i64 0, .int .i64 0, .int .i64 0, .int .i64 0, .int .i64 0, .int .i64 0, .int .i64 0, .int .i64 0, .int .i64 0, .int .i64 0, .int .i64 0, .int .i64 0, .int .i64 0, .int .i64 0, .int .i64 0, .int .i64 0, .int .i64 0, .int .i64 0, .int .i64 0] 132)) (.cells #[.int .i64 alg, .int .i64 n, .int .i64 1, .int .i64 base, .int .i64 loc, .int .i64 room] 128)
  rw [World.size_alloc] at b
  rw [World.size_alloc, World.size_alloc] at c
  refine ⟨(((Up.refl w).alloc _).alloc _).alloc _, (((Up.refl _).alloc _).alloc _).block _ (by simp) |>.trans a, ((Up.refl _).alloc _).block _ (by simp) |>.trans b, c, by omega⟩)
 go_enter Tryz.func96, Tryz.ntmps96
 have b0 := HB.out
 obtain ⟨W0, hW0⟩ : ∃ x, (((w.alloc (.cells #[.int .i64 1, .int .i64 alg, .int .i64 1, .int .i64 room, .int .i64 z4, .int .i64 z5, .int .i64 z6, .int .i64 z7] 46)).alloc (.cells #[.int .i64 0, .int .i64 0, .int .i64 0, .int .i64 0, .int .i64 0, .int .i64 0, .int .i64 0, .int .i64 0, .int .i64 0, .int .i64 0, .int .i64 0, .int .i64 0, .int .i64 0, .int .i64 0, .int .i64 0, .int .i64 0, .int .i64 0, .int .i64 0, .int .i64 0, .int .i64 0, .int .i64 0, .int .i64 0, .int .i64 0] 132)).alloc (.cells #[.int .i64 alg, .int .i64 n, .int .i64 1, .int .i64 base, .int .i64 loc, .int .i64 room] 128)) = x := ⟨_, rfl⟩
 obtain ⟨tb, htb⟩ : ∃ x, w.heap.size = x := ⟨_, rfl⟩
 rw [hW0] at HB b0
 have hsz : (w.alloc (.cells #[.int .i64 1, .int .i64 alg, .int .i64 1, .int .i64 room, .int .i64 z4, .int .i64 z5, .int .i64 z6, .int .i64 z7] 46)).heap.size = w.heap.size + 1 := World.size_alloc _ _
 have t0 : ∀ i, (w.alloc (.cells #[.int .i64 1, .int .i64 alg, .int .i64 1, .int .i64 room, .int .i64 z4, .int .i64 z5, .int .i64 z6, .int .i64 z7] 46)).cell? ⟨w.heap.size, i, none⟩ = (#[.int .i64 1, .int .i64 alg, .int .i64 1, .int .i64 room, .int .i64 z4, .int .i64 z5, .int .i64 z6, .int .i64 z7] : Array Value)[i]? := blk_cells (heap_alloc_new w _)
 have s0 : ∀ i, ((w.alloc (.cells #[.int .i64 1, .int .i64 alg, .int .i64 1, .int .i64 room, .int .i64 z4, .int .i64 z5, .int .i64 z6, .int .i64 z7] 46)).alloc (.cells #[.int .i64 0, .int .i64 0, .int .i64 0, .int .i64 0, .int .i64 0, .int .i64 0, .int .i64 0, .int .i64 0, .int .i64 0, .int .i64 0, .int .i64 0, .int .i64 0, .int .i64 0, .int .i64 0, .int .i64 0, .int .i64 0, .int .i64 0, .int .i64 0, .int .i64 0, .int .i64 0, .int .i64 0, .int .i64 0, .int .i64 0] 132)).cell? ⟨w.heap.size, i, none⟩ = (#[.int .i64 1, .int .i64 alg, .int .i64 1, .int .i64 room, .int .i64 z4, .int .i64 z5, .int .i64 z6, .int .i64 z7] : Array Value)[i]? := fun i => (((Up.refl _).alloc _).cell (p := ⟨w.heap.size, i, none⟩) (by simp)).trans (t0 i)
 have s1 := s0 1
 have s2 := s0 2
 have s3 := s0 3
 simp only [gA_T, gA_0, gA_S] at s1 s2 s3
 clear s0 t0
 rw [htb] at HB b0 s1 s2 s3
 obtain ⟨⟨c0, c1, c2, c3, c4, c5, c6, c7⟩, d0, d1, d2, d3, d4, d5⟩ := b0.cells
 clear b0 hsz
 go_wp2_with fail
 refine (HF.out _).mono ?_
 rintro e w1 ⟨rfl, hu1⟩
 have HB1 := hQ' (HB.out.go hu1)
 clear hu1 c0 c1 c2 c3 c4 c5 c6 c7 d0 d1 d2 d3 d4 d5 HB s1 s2 s3 hW0 htb HF hF hC hL
 obtain ⟨⟨c0, c1, c2, c3, c4, c5, c6, c7⟩, d0, d1, d2, d3, d4, d5⟩ := HB1.out.cells
 have HI0 : ∀ P : Prop, P → P := fun _ h => h
 go_upto_region 4 with fail
 clear c0 c1 c2 c3 c4 c5 c6 c7 d0 d1 d2 d3 d4 d5
 go_cut [11] (fun v11 wx => ∃ zc : Nat, v11 = .pointer (some ⟨zc, 0, none⟩) ∧ Hid (LayB w wx alg n base loc room z4 z5 z6 z7 tb (tb + 1) (tb + 1 + 1) ∧ wx.heap[zc]? = some (.cells #[.int .i64 1, .int .i64 alg, .int .i64 1, .int .i64 room, .int .i64 z4, .int .i64 z5, .int .i64 z6, .int .i64 z7, .int .i64 alg, .int .i64 n, .int .i64 1, .int .i64 base, .int .i64 loc, .int .i64 room, .int .i64 0, .int .i64 0, .int .i64 0, .int .i64 0, .int .i64 0, .int .i64 0, .int .i64 0, .int .i64 (base + cl), .int .i64 (loc + lo)] 132 (0, 0))))
 case first =>
  have HB2 := hQ' (HB1.out.go (Up.refl w1).drew)
  refine wp_region_held_drew (S := fun W => (W.cell? ⟨tb, 0, none⟩ = some (.int .i64 1) ∧ W.cell? ⟨tb, 1, none⟩ = some (.int .i64 alg) ∧ W.cell? ⟨tb, 2, none⟩ = some (.int .i64 1) ∧ W.cell? ⟨tb, 3, none⟩ = some (.int .i64 room) ∧ W.cell? ⟨tb, 4, none⟩ = some (.int .i64 z4) ∧ W.cell? ⟨tb, 5, none⟩ = some (.int .i64 z5) ∧ W.cell? ⟨tb, 6, none⟩ = some (.int .i64 z6) ∧ W.cell? ⟨tb, 7, none⟩ = some (.int .i64 z7)) ∧ (W.cell? ⟨tb + 1 + 1, 0, none⟩ = some (.int .i64 alg) ∧ W.cell? ⟨tb + 1 + 1, 1, none⟩ = some (.int .i64 n) ∧ W.cell? ⟨tb + 1 + 1, 2, none⟩ = some (.int .i64 1) ∧ W.cell? ⟨tb + 1 + 1, 3, none⟩ = some (.int .i64 base) ∧ W.cell? ⟨tb + 1 + 1, 4, none⟩ = some (.int .i64 loc) ∧ W.cell? ⟨tb + 1 + 1, 5, none⟩ = some (.int .i64 room))) (by kernel_rfl) HB2.out.cells (fun hS0 => ?_)
  refine tkE 0 ?_ rfl (by kernel_rfl) (fun _ _ _ h => h) hS0 ?_ ?_
  rotate_left
  · intro w hSw
    try dsimp only at hSw
    go_simp
    try (with_reducible rfl)
  try simp only [Act.put, sC_I, sC_0, sC_1]
  refine tkE 1 ?_ rfl (by kernel_rfl) (fun _ _ _ h => h) hS0 ?_ ?_
  rotate_left
  · intro w hSw
    try dsimp only at hSw
    go_simp
    try (with_reducible rfl)
  try simp only [Act.put, sC_I, sC_0, sC_1]
  refine tkE 2 ?_ rfl (by kernel_rfl) (fun _ _ _ h => h) hS0 ?_ ?_
  rotate_left
  · intro w hSw
    try dsimp only at hSw
    go_simp
    try (with_reducible rfl)
  try simp only [Act.put, sC_I, sC_0, sC_1]
  refine tkE 3 ?_ rfl (by kernel_rfl) (fun _ _ _ h => h) hS0 ?_ ?_
  rotate_left
  · intro w hSw
    try dsimp only at hSw
    go_simp
    try (with_reducible rfl)
  try simp only [Act.put, sC_I, sC_0, sC_1]
  refine tkE 6 ?_ rfl (by kernel_rfl) (fun _ _ _ h => h) hS0 ?_ ?_
  rotate_left
  · intro w hSw
    try dsimp only at hSw
    go_simp
    try (with_reducible rfl)
  try simp only [Act.put, sC_I, sC_0, sC_1]
  refine tkE 7 ?_ rfl (by kernel_rfl) (fun _ _ _ h => h) hS0 ?_ ?_
  rotate_left
  · intro w hSw
    try dsimp only at hSw
    go_simp
    try (with_reducible rfl)
  try simp only [Act.put, sC_I, sC_0, sC_1]
  refine wpAnyH_ready (rs := [4, 11]) (by decide +kernel) (by simp) ?_
  refine AllReadyH.cons rfl (fun K hK => ?_) (AllReadyH.cons rfl (fun K hK => ?_) AllReadyH.nil)
  · go_simp
    refine (HC.out _).mono ?_
    rintro e w2 ⟨rfl, hu⟩
    have HB3 := hQ' (HB2.out.go hu)
    clear hu
    refine hK.out _ _ HB3.out.cells (fun hS1 => ?_)
    clear hK K
    try simp only [Act.put, sC_I, sC_0, sC_1]
    refine tkE 5 ?_ rfl (by kernel_rfl) (fun _ _ _ h => h) hS1 ?_ ?_
    rotate_left
    · intro w hSw
      try dsimp only at hSw
      go_simp
      try (with_reducible rfl)
    try simp only [Act.put, sC_I, sC_0, sC_1]
    try simp only [v1]
    refine wpAnyH_ready (rs := [8, 11]) (by kernel_rfl) (by simp) ?_
    refine AllReadyH.cons rfl (fun K hK => ?_) (AllReadyH.cons rfl (fun K hK => ?_) AllReadyH.nil)
    · go_simp
      refine (HL.out _).mono ?_
      rintro e w3 ⟨rfl, hu⟩
      have HB4 := hQ' (HB3.out.go hu)
      clear hu
      refine hK.out _ _ HB4.out.cells (fun hS2 => ?_)
      clear hK K
      try simp only [Act.put, sC_I, sC_0, sC_1]
      refine tkE 9 ?_ rfl (by kernel_rfl) (fun _ _ _ h => h) hS2 ?_ ?_
      rotate_left
      · intro w hSw
        try dsimp only at hSw
        go_simp
        try (with_reducible rfl)
      try simp only [Act.put, sC_I, sC_0, sC_1]
      try simp only [v2]
      refine tkE 10 ?_ rfl (by kernel_rfl) (fun _ _ _ h => h) hS2 ?_ ?_
      rotate_left
      · intro w hSw
        try dsimp only at hSw
        go_simp
        try (with_reducible rfl)
      try simp only [Act.put, sC_I, sC_0, sC_1]
      refine rdE 11 (by kernel_rfl) rfl fun K hK => ?_
      go_simp
      obtain ⟨w4, hw4⟩ : ∃ x, w3.alloc (.cells #[.int .i64 0, .int .i64 0, .int .i64 0, .int .i64 0, .int .i64 0, .int .i64 0, .int .i64 0, .int .i64 0, .int .i64 0, .int .i64 0, .int .i64 0, .int .i64 0, .int .i64 0, .int .i64 0, .int .i64 0, .int .i64 0, .int .i64 0, .int .i64 0, .int .i64 0, .int .i64 0, .int .i64 0, .int .i64 0, .int .i64 0] 132) = x := ⟨_, rfl⟩
      have HB5 := hQ' (HB4.out.go ((Up.refl w3).alloc (.cells #[.int .i64 0, .int .i64 0, .int .i64 0, .int .i64 0, .int .i64 0, .int .i64 0, .int .i64 0, .int .i64 0, .int .i64 0, .int .i64 0, .int .i64 0, .int .i64 0, .int .i64 0, .int .i64 0, .int .i64 0, .int .i64 0, .int .i64 0, .int .i64 0, .int .i64 0, .int .i64 0, .int .i64 0, .int .i64 0, .int .i64 0] 132)))
      have hzk : (w3.alloc (.cells #[.int .i64 0, .int .i64 0, .int .i64 0, .int .i64 0, .int .i64 0, .int .i64 0, .int .i64 0, .int .i64 0, .int .i64 0, .int .i64 0, .int .i64 0, .int .i64 0, .int .i64 0, .int .i64 0, .int .i64 0, .int .i64 0, .int .i64 0, .int .i64 0, .int .i64 0, .int .i64 0, .int .i64 0, .int .i64 0, .int .i64 0] 132)).heap[w3.heap.size]? = some (.cells #[.int .i64 0, .int .i64 0, .int .i64 0, .int .i64 0, .int .i64 0, .int .i64 0, .int .i64 0, .int .i64 0, .int .i64 0, .int .i64 0, .int .i64 0, .int .i64 0, .int .i64 0, .int .i64 0, .int .i64 0, .int .i64 0, .int .i64 0, .int .i64 0, .int .i64 0, .int .i64 0, .int .i64 0, .int .i64 0, .int .i64 0] 132 (0, 0)) := heap_alloc_new w3 (.cells #[.int .i64 0, .int .i64 0, .int .i64 0, .int .i64 0, .int .i64 0, .int .i64 0, .int .i64 0, .int .i64 0, .int .i64 0, .int .i64 0, .int .i64 0, .int .i64 0, .int .i64 0, .int .i64 0, .int .i64 0, .int .i64 0, .int .i64 0, .int .i64 0, .int .i64 0, .int .i64 0, .int .i64 0, .int .i64 0, .int .i64 0] 132)
      obtain ⟨zc, hzc⟩ : ∃ x, w3.heap.size = x := ⟨_, rfl⟩
      have HGE := hQ' (show w.heap.size ≤ zc ∧ zc ≠ tb ∧ zc ≠ tb + 1 ∧ zc ≠ tb + 1 + 1 from by
       have h1 := HB4.out.up.size
       have h2 := (Array.getElem?_eq_some_iff.1 HB4.out.tk).1
       have h3 := (Array.getElem?_eq_some_iff.1 HB4.out.rk).1
       have h4 := (Array.getElem?_eq_some_iff.1 HB4.out.lk).1
       omega)
      rw [hw4] at HB5 hzk ⊢
      rw [hzc] at hzk ⊢
      clear hw4 hzc
      have HZK := hQ' hzk
      clear hzk
      refine hK.out _ _ HB5.out.cells (fun hS3 => ?_)
      clear hK K
      try simp only [Act.put, sC_I, sC_0, sC_1]
      refine rdE 12 (by kernel_rfl) rfl fun K hK => ?_
      refine step_store_row rfl 132 (.tmp 11) (.tmp 53) rfl zc #[.int .i64 1, .int .i64 alg, .int .i64 1, .int .i64 room, .int .i64 z4, .int .i64 z5, .int .i64 z6, .int .i64 z7, .int .i64 alg, .int .i64 n, .int .i64 1, .int .i64 base, .int .i64 loc, .int .i64 room, .int .i64 0, .int .i64 0, .int .i64 0, .int .i64 0, .int .i64 0, .int .i64 0, .int .i64 0, .int .i64 (base + cl), .int .i64 (loc + lo)] rfl rfl 132 #[.int .i64 0, .int .i64 0, .int .i64 0, .int .i64 0, .int .i64 0, .int .i64 0, .int .i64 0, .int .i64 0, .int .i64 0, .int .i64 0, .int .i64 0, .int .i64 0, .int .i64 0, .int .i64 0, .int .i64 0, .int .i64 0, .int .i64 0, .int .i64 0, .int .i64 0, .int .i64 0, .int .i64 0, .int .i64 0, .int .i64 0] HZK.out (by kernel_rfl) rfl (by simp [Value.oneCell']) ?_
      have HB6 := hQ' (HB5.out.row HGE.out.1 HGE.out.2.1 HGE.out.2.2.1 HGE.out.2.2.2 #[.int .i64 1, .int .i64 alg, .int .i64 1, .int .i64 room, .int .i64 z4, .int .i64 z5, .int .i64 z6, .int .i64 z7, .int .i64 alg, .int .i64 n, .int .i64 1, .int .i64 base, .int .i64 loc, .int .i64 room, .int .i64 0, .int .i64 0, .int .i64 0, .int .i64 0, .int .i64 0, .int .i64 0, .int .i64 0, .int .i64 (base + cl), .int .i64 (loc + lo)])
      refine hK.out _ _ HB6.out.cells (fun hS4 => ?_)
      clear hK K
      try simp only [Act.put, sC_I, sC_0, sC_1]
      refine wpAnyH_done (by kernel_rfl) ?_ _
      try simp only [Act.put, sC_I, sC_0, sC_1, List.getElem_toArray, List.getElem_cons_succ, List.getElem_cons_zero]
      go_wp2_with fail
      go_meet
      exact ⟨_, rfl, hQ' ⟨HB6.out, setRow_heap w4 zc _ _ _ _ HZK.out⟩⟩
    · go_simp
      obtain ⟨w3, hw4⟩ : ∃ x, w2.alloc (.cells #[.int .i64 0, .int .i64 0, .int .i64 0, .int .i64 0, .int .i64 0, .int .i64 0, .int .i64 0, .int .i64 0, .int .i64 0, .int .i64 0, .int .i64 0, .int .i64 0, .int .i64 0, .int .i64 0, .int .i64 0, .int .i64 0, .int .i64 0, .int .i64 0, .int .i64 0, .int .i64 0, .int .i64 0, .int .i64 0, .int .i64 0] 132) = x := ⟨_, rfl⟩
      have HB4 := hQ' (HB3.out.go ((Up.refl w2).alloc (.cells #[.int .i64 0, .int .i64 0, .int .i64 0, .int .i64 0, .int .i64 0, .int .i64 0, .int .i64 0, .int .i64 0, .int .i64 0, .int .i64 0, .int .i64 0, .int .i64 0, .int .i64 0, .int .i64 0, .int .i64 0, .int .i64 0, .int .i64 0, .int .i64 0, .int .i64 0, .int .i64 0, .int .i64 0, .int .i64 0, .int .i64 0] 132)))
      have hzk : (w2.alloc (.cells #[.int .i64 0, .int .i64 0, .int .i64 0, .int .i64 0, .int .i64 0, .int .i64 0, .int .i64 0, .int .i64 0, .int .i64 0, .int .i64 0, .int .i64 0, .int .i64 0, .int .i64 0, .int .i64 0, .int .i64 0, .int .i64 0, .int .i64 0, .int .i64 0, .int .i64 0, .int .i64 0, .int .i64 0, .int .i64 0, .int .i64 0] 132)).heap[w2.heap.size]? = some (.cells #[.int .i64 0, .int .i64 0, .int .i64 0, .int .i64 0, .int .i64 0, .int .i64 0, .int .i64 0, .int .i64 0, .int .i64 0, .int .i64 0, .int .i64 0, .int .i64 0, .int .i64 0, .int .i64 0, .int .i64 0, .int .i64 0, .int .i64 0, .int .i64 0, .int .i64 0, .int .i64 0, .int .i64 0, .int .i64 0, .int .i64 0] 132 (0, 0)) := heap_alloc_new w2 (.cells #[.int .i64 0, .int .i64 0, .int .i64 0, .int .i64 0, .int .i64 0, .int .i64 0, .int .i64 0, .int .i64 0, .int .i64 0, .int .i64 0, .int .i64 0, .int .i64 0, .int .i64 0, .int .i64 0, .int .i64 0, .int .i64 0, .int .i64 0, .int .i64 0, .int .i64 0, .int .i64 0, .int .i64 0, .int .i64 0, .int .i64 0] 132)
      obtain ⟨zc, hzc⟩ : ∃ x, w2.heap.size = x := ⟨_, rfl⟩
      have HGE := hQ' (show w.heap.size ≤ zc ∧ zc ≠ tb ∧ zc ≠ tb + 1 ∧ zc ≠ tb + 1 + 1 from by
       have h1 := HB3.out.up.size
       have h2 := (Array.getElem?_eq_some_iff.1 HB3.out.tk).1
       have h3 := (Array.getElem?_eq_some_iff.1 HB3.out.rk).1
       have h4 := (Array.getElem?_eq_some_iff.1 HB3.out.lk).1
       omega)
      rw [hw4] at HB4 hzk ⊢
      rw [hzc] at hzk ⊢
      clear hw4 hzc
      have HZK := hQ' hzk
      clear hzk
      refine hK.out _ _ HB4.out.cells (fun hS2 => ?_)
      clear hK K
      try simp only [Act.put, sC_I, sC_0, sC_1]
      refine rdE 8 (by kernel_rfl) rfl fun K hK => ?_
      go_simp
      refine (HL.out _).mono ?_
      rintro e w4 ⟨rfl, hu⟩
      have HB5 := hQ' (HB4.out.go hu)
      have HZK := hQ' ((hu.block _ (Array.getElem?_eq_some_iff.1 HZK.out).1).trans HZK.out)
      clear hu
      refine hK.out _ _ HB5.out.cells (fun hS3 => ?_)
      clear hK K
      try simp only [Act.put, sC_I, sC_0, sC_1]
      refine tkE 9 ?_ rfl (by kernel_rfl) (fun _ _ _ h => h) hS3 ?_ ?_
      rotate_left
      · intro w hSw
        try dsimp only at hSw
        go_simp
        try (with_reducible rfl)
      try simp only [Act.put, sC_I, sC_0, sC_1]
      try simp only [v2]
      refine tkE 10 ?_ rfl (by kernel_rfl) (fun _ _ _ h => h) hS3 ?_ ?_
      rotate_left
      · intro w hSw
        try dsimp only at hSw
        go_simp
        try (with_reducible rfl)
      try simp only [Act.put, sC_I, sC_0, sC_1]
      refine rdE 12 (by kernel_rfl) rfl fun K hK => ?_
      refine step_store_row rfl 132 (.tmp 11) (.tmp 53) rfl zc #[.int .i64 1, .int .i64 alg, .int .i64 1, .int .i64 room, .int .i64 z4, .int .i64 z5, .int .i64 z6, .int .i64 z7, .int .i64 alg, .int .i64 n, .int .i64 1, .int .i64 base, .int .i64 loc, .int .i64 room, .int .i64 0, .int .i64 0, .int .i64 0, .int .i64 0, .int .i64 0, .int .i64 0, .int .i64 0, .int .i64 (base + cl), .int .i64 (loc + lo)] rfl rfl 132 #[.int .i64 0, .int .i64 0, .int .i64 0, .int .i64 0, .int .i64 0, .int .i64 0, .int .i64 0, .int .i64 0, .int .i64 0, .int .i64 0, .int .i64 0, .int .i64 0, .int .i64 0, .int .i64 0, .int .i64 0, .int .i64 0, .int .i64 0, .int .i64 0, .int .i64 0, .int .i64 0, .int .i64 0, .int .i64 0, .int .i64 0] HZK.out (by kernel_rfl) rfl (by simp [Value.oneCell']) ?_
      have HB6 := hQ' (HB5.out.row HGE.out.1 HGE.out.2.1 HGE.out.2.2.1 HGE.out.2.2.2 #[.int .i64 1, .int .i64 alg, .int .i64 1, .int .i64 room, .int .i64 z4, .int .i64 z5, .int .i64 z6, .int .i64 z7, .int .i64 alg, .int .i64 n, .int .i64 1, .int .i64 base, .int .i64 loc, .int .i64 room, .int .i64 0, .int .i64 0, .int .i64 0, .int .i64 0, .int .i64 0, .int .i64 0, .int .i64 0, .int .i64 (base + cl), .int .i64 (loc + lo)])
      refine hK.out _ _ HB6.out.cells (fun hS4 => ?_)
      clear hK K
      try simp only [Act.put, sC_I, sC_0, sC_1]
      refine wpAnyH_done (by kernel_rfl) ?_ _
      try simp only [Act.put, sC_I, sC_0, sC_1, List.getElem_toArray, List.getElem_cons_succ, List.getElem_cons_zero]
      go_wp2_with fail
      go_meet
      exact ⟨_, rfl, hQ' ⟨HB6.out, setRow_heap w4 zc _ _ _ _ HZK.out⟩⟩
  · go_simp
    obtain ⟨w2, hw4⟩ : ∃ x, (w1.alloc (.cells #[.int .i64 0, .int .i64 0, .int .i64 0, .int .i64 0, .int .i64 0, .int .i64 0, .int .i64 0, .int .i64 0, .int .i64 0, .int .i64 0, .int .i64 0, .int .i64 0, .int .i64 0, .int .i64 0, .int .i64 0, .int .i64 0, .int .i64 0, .int .i64 0, .int .i64 0, .int .i64 0, .int .i64 0, .int .i64 0, .int .i64 0] 132)).drew = x := ⟨_, rfl⟩
    have HB3 := hQ' (HB1.out.go ((Up.refl w1).alloc (.cells #[.int .i64 0, .int .i64 0, .int .i64 0, .int .i64 0, .int .i64 0, .int .i64 0, .int .i64 0, .int .i64 0, .int .i64 0, .int .i64 0, .int .i64 0, .int .i64 0, .int .i64 0, .int .i64 0, .int .i64 0, .int .i64 0, .int .i64 0, .int .i64 0, .int .i64 0, .int .i64 0, .int .i64 0, .int .i64 0, .int .i64 0] 132)).drew)
    have hzk : ((w1.alloc (.cells #[.int .i64 0, .int .i64 0, .int .i64 0, .int .i64 0, .int .i64 0, .int .i64 0, .int .i64 0, .int .i64 0, .int .i64 0, .int .i64 0, .int .i64 0, .int .i64 0, .int .i64 0, .int .i64 0, .int .i64 0, .int .i64 0, .int .i64 0, .int .i64 0, .int .i64 0, .int .i64 0, .int .i64 0, .int .i64 0, .int .i64 0] 132)).drew).heap[w1.heap.size]? = some (.cells #[.int .i64 0, .int .i64 0, .int .i64 0, .int .i64 0, .int .i64 0, .int .i64 0, .int .i64 0, .int .i64 0, .int .i64 0, .int .i64 0, .int .i64 0, .int .i64 0, .int .i64 0, .int .i64 0, .int .i64 0, .int .i64 0, .int .i64 0, .int .i64 0, .int .i64 0, .int .i64 0, .int .i64 0, .int .i64 0, .int .i64 0] 132 (0, 0)) := heap_alloc_new w1 (.cells #[.int .i64 0, .int .i64 0, .int .i64 0, .int .i64 0, .int .i64 0, .int .i64 0, .int .i64 0, .int .i64 0, .int .i64 0, .int .i64 0, .int .i64 0, .int .i64 0, .int .i64 0, .int .i64 0, .int .i64 0, .int .i64 0, .int .i64 0, .int .i64 0, .int .i64 0, .int .i64 0, .int .i64 0, .int .i64 0, .int .i64 0] 132)
    obtain ⟨zc, hzc⟩ : ∃ x, w1.heap.size = x := ⟨_, rfl⟩
    have HGE := hQ' (show w.heap.size ≤ zc ∧ zc ≠ tb ∧ zc ≠ tb + 1 ∧ zc ≠ tb + 1 + 1 from by
     have h1 := HB1.out.up.size
     have h2 := (Array.getElem?_eq_some_iff.1 HB1.out.tk).1
     have h3 := (Array.getElem?_eq_some_iff.1 HB1.out.rk).1
     have h4 := (Array.getElem?_eq_some_iff.1 HB1.out.lk).1
     omega)
    rw [hw4] at HB3 hzk ⊢
    rw [hzc] at hzk ⊢
    clear hw4 hzc
    have HZK := hQ' hzk
    clear hzk
    refine hK.out _ _ HB3.out.cells (fun hS1 => ?_)
    clear hK K
    try simp only [Act.put, sC_I, sC_0, sC_1]
    refine rdE 4 (by kernel_rfl) rfl fun K hK => ?_
    go_simp
    refine (HC.out _).mono ?_
    rintro e w3 ⟨rfl, hu⟩
    have HB4 := hQ' (HB3.out.go hu)
    have HZK := hQ' ((hu.block _ (Array.getElem?_eq_some_iff.1 HZK.out).1).trans HZK.out)
    clear hu
    refine hK.out _ _ HB4.out.cells (fun hS2 => ?_)
    clear hK K
    try simp only [Act.put, sC_I, sC_0, sC_1]
    refine tkE 5 ?_ rfl (by kernel_rfl) (fun _ _ _ h => h) hS2 ?_ ?_
    rotate_left
    · intro w hSw
      try dsimp only at hSw
      go_simp
      try (with_reducible rfl)
    try simp only [Act.put, sC_I, sC_0, sC_1]
    try simp only [v1]
    refine rdE 8 (by kernel_rfl) rfl fun K hK => ?_
    go_simp
    refine (HL.out _).mono ?_
    rintro e w4 ⟨rfl, hu⟩
    have HB5 := hQ' (HB4.out.go hu)
    have HZK := hQ' ((hu.block _ (Array.getElem?_eq_some_iff.1 HZK.out).1).trans HZK.out)
    clear hu
    refine hK.out _ _ HB5.out.cells (fun hS3 => ?_)
    clear hK K
    try simp only [Act.put, sC_I, sC_0, sC_1]
    refine tkE 9 ?_ rfl (by kernel_rfl) (fun _ _ _ h => h) hS3 ?_ ?_
    rotate_left
    · intro w hSw
      try dsimp only at hSw
      go_simp
      try (with_reducible rfl)
    try simp only [Act.put, sC_I, sC_0, sC_1]
    try simp only [v2]
    refine tkE 10 ?_ rfl (by kernel_rfl) (fun _ _ _ h => h) hS3 ?_ ?_
    rotate_left
    · intro w hSw
      try dsimp only at hSw
      go_simp
      try (with_reducible rfl)
    try simp only [Act.put, sC_I, sC_0, sC_1]
    refine rdE 12 (by kernel_rfl) rfl fun K hK => ?_
    refine step_store_row rfl 132 (.tmp 11) (.tmp 53) rfl zc #[.int .i64 1, .int .i64 alg, .int .i64 1, .int .i64 room, .int .i64 z4, .int .i64 z5, .int .i64 z6, .int .i64 z7, .int .i64 alg, .int .i64 n, .int .i64 1, .int .i64 base, .int .i64 loc, .int .i64 room, .int .i64 0, .int .i64 0, .int .i64 0, .int .i64 0, .int .i64 0, .int .i64 0, .int .i64 0, .int .i64 (base + cl), .int .i64 (loc + lo)] rfl rfl 132 #[.int .i64 0, .int .i64 0, .int .i64 0, .int .i64 0, .int .i64 0, .int .i64 0, .int .i64 0, .int .i64 0, .int .i64 0, .int .i64 0, .int .i64 0, .int .i64 0, .int .i64 0, .int .i64 0, .int .i64 0, .int .i64 0, .int .i64 0, .int .i64 0, .int .i64 0, .int .i64 0, .int .i64 0, .int .i64 0, .int .i64 0] HZK.out (by kernel_rfl) rfl (by simp [Value.oneCell']) ?_
    have HB6 := hQ' (HB5.out.row HGE.out.1 HGE.out.2.1 HGE.out.2.2.1 HGE.out.2.2.2 #[.int .i64 1, .int .i64 alg, .int .i64 1, .int .i64 room, .int .i64 z4, .int .i64 z5, .int .i64 z6, .int .i64 z7, .int .i64 alg, .int .i64 n, .int .i64 1, .int .i64 base, .int .i64 loc, .int .i64 room, .int .i64 0, .int .i64 0, .int .i64 0, .int .i64 0, .int .i64 0, .int .i64 0, .int .i64 0, .int .i64 (base + cl), .int .i64 (loc + lo)])
    refine hK.out _ _ HB6.out.cells (fun hS4 => ?_)
    clear hK K
    try simp only [Act.put, sC_I, sC_0, sC_1]
    refine wpAnyH_done (by kernel_rfl) ?_ _
    try simp only [Act.put, sC_I, sC_0, sC_1, List.getElem_toArray, List.getElem_cons_succ, List.getElem_cons_zero]
    go_wp2_with fail
    go_meet
    exact ⟨_, rfl, hQ' ⟨HB6.out, setRow_heap w4 zc _ _ _ _ HZK.out⟩⟩
 case rest =>
  obtain ⟨zc, rfl, HQ⟩ := hcut
  obtain ⟨⟨c0, c1, c2, c3, c4, c5, c6, c7⟩, d0, d1, d2, d3, d4, d5⟩ := HQ.out.1.cells
  have o21 : wc.cell? ⟨zc, 21, none⟩ = some (.int .i64 (base + cl)) := blk_cells HQ.out.2 21
  have o22 : wc.cell? ⟨zc, 22, none⟩ = some (.int .i64 (loc + lo)) := blk_cells HQ.out.2 22
  clear HB1 HC HL
  go_wp2_with fail
  refine (HP.out _).mono ?_
  rintro e w5 ⟨rfl, rfl⟩
  go_upto_region 6 with fail
  go_quiet ((go_at_call 76; exact Calls.quiet_of_same (HCN.out _)))
  rename_i nq
  have huz : Up w5 (w5.drewN nq) := (Up.refl w5).drewN nq
  generalize w5.drewN nq = wz at *
  clear o21 o22 c0 c1 c2 c3 c4 c5 c6 c7 d0 d1 d2 d3 d4 d5
  have HQ1 := hQ' (HQ.out.1.go huz)
  have HZC := hQ' ((huz.block _ (Array.getElem?_eq_some_iff.1 HQ.out.2).1).trans HQ.out.2)
  clear huz
  have HFIN := hQ' (setRow_heap wz (tb + 1) _ #[.int .i64 1, .int .i64 alg, .int .i64 1, .int .i64 room, .int .i64 z4, .int .i64 z5, .int .i64 z6, .int .i64 z7, .int .i64 alg, .int .i64 n, .int .i64 1, .int .i64 base, .int .i64 loc, .int .i64 room, .int .i64 0, .int .i64 0, .int .i64 0, .int .i64 0, .int .i64 0, .int .i64 0, .int .i64 0, .int .i64 (base + cl), .int .i64 (loc + lo)] _ _ HQ1.out.rk)
  have HUP := hQ' (up_row HQ1.out.up HQ1.out.ge #[.int .i64 1, .int .i64 alg, .int .i64 1, .int .i64 room, .int .i64 z4, .int .i64 z5, .int .i64 z6, .int .i64 z7, .int .i64 alg, .int .i64 n, .int .i64 1, .int .i64 base, .int .i64 loc, .int .i64 room, .int .i64 0, .int .i64 0, .int .i64 0, .int .i64 0, .int .i64 0, .int .i64 0, .int .i64 0, .int .i64 (base + cl), .int .i64 (loc + lo)])
  go_wp2_with (first
   | (refine wpList_load_row rfl 132 (.tmp 11) rfl zc rfl 132 #[.int .i64 1, .int .i64 alg, .int .i64 1, .int .i64 room, .int .i64 z4, .int .i64 z5, .int .i64 z6, .int .i64 z7, .int .i64 alg, .int .i64 n, .int .i64 1, .int .i64 base, .int .i64 loc, .int .i64 room, .int .i64 0, .int .i64 0, .int .i64 0, .int .i64 0, .int .i64 0, .int .i64 0, .int .i64 0, .int .i64 (base + cl), .int .i64 (loc + lo)] (0, 0) _ HZC.out Tryz.underlying132 rfl (by kernel_rfl) ?_)
   | (refine wpList_store_row rfl 132 (.tmp 8) (.tmp 74) rfl (tb + 1) #[.int .i64 1, .int .i64 alg, .int .i64 1, .int .i64 room, .int .i64 z4, .int .i64 z5, .int .i64 z6, .int .i64 z7, .int .i64 alg, .int .i64 n, .int .i64 1, .int .i64 base, .int .i64 loc, .int .i64 room, .int .i64 0, .int .i64 0, .int .i64 0, .int .i64 0, .int .i64 0, .int .i64 0, .int .i64 0, .int .i64 (base + cl), .int .i64 (loc + lo)] rfl rfl 132 #[.int .i64 0, .int .i64 0, .int .i64 0, .int .i64 0, .int .i64 0, .int .i64 0, .int .i64 0, .int .i64 0, .int .i64 0, .int .i64 0, .int .i64 0, .int .i64 0, .int .i64 0, .int .i64 0, .int .i64 0, .int .i64 0, .int .i64 0, .int .i64 0, .int .i64 0, .int .i64 0, .int .i64 0, .int .i64 0, .int .i64 0] HQ1.out.rk (by kernel_rfl) rfl (by simp [Value.oneCell']) ?_))
  refine bodyPost_ret (v := .tuple #[.agg #[.int .i64 1, .int .i64 alg, .int .i64 1, .int .i64 room, .int .i64 z4, .int .i64 z5, .int .i64 z6, .int .i64 z7, .int .i64 alg, .int .i64 n, .int .i64 1, .int .i64 base, .int .i64 loc, .int .i64 room, .int .i64 0, .int .i64 0, .int .i64 0, .int .i64 0, .int .i64 0, .int .i64 0, .int .i64 0, .int .i64 (base + cl), .int .i64 (loc + lo)], .bool true]) ?_ rfl ⟨rfl, HUP.out⟩
  exact (results_cell2 (p := 8) (u := 9) (ty := 132) rfl _ _ (tb + 1) 132 _ _ _ rfl HFIN.out Tryz.underlying132 rfl (by kernel_rfl)).trans rfl
end Go.Proofs.YtpodgcpkccpnfaaGreat

namespace Go.Proofs.YtpodgcpkccpnfaaGreat
open Go.RowKit
theorem infoStr : (Tryz.prog.info? 152).map (fun i => (i.zero, i.size, i.bytes)) = some (some (.agg #[.int .i64 0, .int .i64 0, .int .i64 0]), 3, 24) := by kernel_rfl
theorem lay_any (alg n base loc room z4 z5 z6 z7 bs lc : Int) (w : World)
 (hL : ∀ W, Calls Tryz.prog 96 #[.agg #[.int .i64 1, .int .i64 alg, .int .i64 1, .int .i64 room, .int .i64 z4, .int .i64 z5, .int .i64 z6, .int .i64 z7], .int .i64 n, .int .i64 base, .int .i64 loc] W fun e w' => e = .returned (.tuple #[.agg #[.int .i64 1, .int .i64 alg, .int .i64 1, .int .i64 room, .int .i64 z4, .int .i64 z5, .int .i64 z6, .int .i64 z7, .int .i64 alg, .int .i64 n, .int .i64 1, .int .i64 base, .int .i64 loc, .int .i64 room, .int .i64 0, .int .i64 0, .int .i64 0, .int .i64 0, .int .i64 0, .int .i64 0, .int .i64 0, .int .i64 bs, .int .i64 lc], .bool true]) ∧ Up W w') :
 Calls Tryz.prog 75 #[.agg #[.int .i64 1, .int .i64 alg, .int .i64 1, .int .i64 room, .int .i64 z4, .int .i64 z5, .int .i64 z6, .int .i64 z7], .int .i64 n, .int .i64 base, .int .i64 loc] w fun e w' => e = .returned (.tuple #[.agg #[.int .i64 1, .int .i64 alg, .int .i64 1, .int .i64 room, .int .i64 z4, .int .i64 z5, .int .i64 z6, .int .i64 z7, .int .i64 alg, .int .i64 n, .int .i64 1, .int .i64 base, .int .i64 loc, .int .i64 room, .int .i64 0, .int .i64 0, .int .i64 0, .int .i64 0, .int .i64 0, .int .i64 0, .int .i64 0, .int .i64 bs, .int .i64 lc], .bool true]) ∧ Up w w' := by
 have HL := hQ' hL
 clear hL
 have ha := heap_alloc_new w (.cells #[.int .i64 1, .int .i64 alg, .int .i64 1, .int .i64 room, .int .i64 z4, .int .i64 z5, .int .i64 z6, .int .i64 z7] 46)
 have hb := heap_alloc_new (w.alloc (.cells #[.int .i64 1, .int .i64 alg, .int .i64 1, .int .i64 room, .int .i64 z4, .int .i64 z5, .int .i64 z6, .int .i64 z7] 46)) (.cells #[.int .i64 0, .int .i64 0, .int .i64 0, .int .i64 0, .int .i64 0, .int .i64 0, .int .i64 0, .int .i64 0, .int .i64 0, .int .i64 0, .int .i64 0, .int .i64 0, .int .i64 0, .int .i64 0, .int .i64 0, .int .i64 0, .int .i64 0, .int .i64 0, .int .i64 0, .int .i64 0, .int .i64 0, .int .i64 0, .int .i64 0] 132)
 rw [World.size_alloc] at hb
 have ha := (((Up.refl (w.alloc (.cells #[.int .i64 1, .int .i64 alg, .int .i64 1, .int .i64 room, .int .i64 z4, .int .i64 z5, .int .i64 z6, .int .i64 z7] 46))).alloc (.cells #[.int .i64 0, .int .i64 0, .int .i64 0, .int .i64 0, .int .i64 0, .int .i64 0, .int .i64 0, .int .i64 0, .int .i64 0, .int .i64 0, .int .i64 0, .int .i64 0, .int .i64 0, .int .i64 0, .int .i64 0, .int .i64 0, .int .i64 0, .int .i64 0, .int .i64 0, .int .i64 0, .int .i64 0, .int .i64 0, .int .i64 0] 132)).block w.heap.size (by simp)).trans ha
 have HUW := hQ' (show Up w ((w.alloc (.cells #[.int .i64 1, .int .i64 alg, .int .i64 1, .int .i64 room, .int .i64 z4, .int .i64 z5, .int .i64 z6, .int .i64 z7] 46)).alloc (.cells #[.int .i64 0, .int .i64 0, .int .i64 0, .int .i64 0, .int .i64 0, .int .i64 0, .int .i64 0, .int .i64 0, .int .i64 0, .int .i64 0, .int .i64 0, .int .i64 0, .int .i64 0, .int .i64 0, .int .i64 0, .int .i64 0, .int .i64 0, .int .i64 0, .int .i64 0, .int .i64 0, .int .i64 0, .int .i64 0, .int .i64 0] 132)) from ((Up.refl w).alloc _).alloc _)
 obtain ⟨W0, hW0⟩ : ∃ x, ((w.alloc (.cells #[.int .i64 1, .int .i64 alg, .int .i64 1, .int .i64 room, .int .i64 z4, .int .i64 z5, .int .i64 z6, .int .i64 z7] 46)).alloc (.cells #[.int .i64 0, .int .i64 0, .int .i64 0, .int .i64 0, .int .i64 0, .int .i64 0, .int .i64 0, .int .i64 0, .int .i64 0, .int .i64 0, .int .i64 0, .int .i64 0, .int .i64 0, .int .i64 0, .int .i64 0, .int .i64 0, .int .i64 0, .int .i64 0, .int .i64 0, .int .i64 0, .int .i64 0, .int .i64 0, .int .i64 0] 132)) = x := ⟨_, rfl⟩
 rw [hW0] at ha hb HUW
 have HB := hQ' hb
 have c0 := blk_cells ha 0
 have c1 := blk_cells ha 1
 have c2 := blk_cells ha 2
 have c3 := blk_cells ha 3
 have c4 := blk_cells ha 4
 have c5 := blk_cells ha 5
 have c6 := blk_cells ha 6
 have c7 := blk_cells ha 7
 simp only [gA_T, gA_0, gA_S] at c0 c1 c2 c3 c4 c5 c6 c7
 clear ha hb
 go_enter Tryz.func75, Tryz.ntmps75
 go_wp2_with fail
 refine (HL.out _).mono ?_
 rintro e w1 ⟨rfl, hu1⟩
 have HB1 := hQ' ((hu1.block _ (Array.getElem?_eq_some_iff.1 HB.out).1).trans HB.out)
 have HU1 := hQ' (HUW.out.trans hu1)
 clear hu1 c0 c1 c2 c3 c4 c5 c6 c7 HB HUW hW0
 have HFIN := hQ' (setRow_heap w1 (w.heap.size + 1) _ #[.int .i64 1, .int .i64 alg, .int .i64 1, .int .i64 room, .int .i64 z4, .int .i64 z5, .int .i64 z6, .int .i64 z7, .int .i64 alg, .int .i64 n, .int .i64 1, .int .i64 base, .int .i64 loc, .int .i64 room, .int .i64 0, .int .i64 0, .int .i64 0, .int .i64 0, .int .i64 0, .int .i64 0, .int .i64 0, .int .i64 bs, .int .i64 lc] _ _ HB1.out)
 have HUP := hQ' (up_row HU1.out (Nat.le_succ w.heap.size) #[.int .i64 1, .int .i64 alg, .int .i64 1, .int .i64 room, .int .i64 z4, .int .i64 z5, .int .i64 z6, .int .i64 z7, .int .i64 alg, .int .i64 n, .int .i64 1, .int .i64 base, .int .i64 loc, .int .i64 room, .int .i64 0, .int .i64 0, .int .i64 0, .int .i64 0, .int .i64 0, .int .i64 0, .int .i64 0, .int .i64 bs, .int .i64 lc])
 go_wp2_with (refine wpList_store_row rfl 132 (.tmp 8) (.tmp 29) rfl (w.heap.size + 1) #[.int .i64 1, .int .i64 alg, .int .i64 1, .int .i64 room, .int .i64 z4, .int .i64 z5, .int .i64 z6, .int .i64 z7, .int .i64 alg, .int .i64 n, .int .i64 1, .int .i64 base, .int .i64 loc, .int .i64 room, .int .i64 0, .int .i64 0, .int .i64 0, .int .i64 0, .int .i64 0, .int .i64 0, .int .i64 0, .int .i64 bs, .int .i64 lc] rfl rfl 132 #[.int .i64 0, .int .i64 0, .int .i64 0, .int .i64 0, .int .i64 0, .int .i64 0, .int .i64 0, .int .i64 0, .int .i64 0, .int .i64 0, .int .i64 0, .int .i64 0, .int .i64 0, .int .i64 0, .int .i64 0, .int .i64 0, .int .i64 0, .int .i64 0, .int .i64 0, .int .i64 0, .int .i64 0, .int .i64 0, .int .i64 0] HB1.out (by kernel_rfl) rfl (by simp [Value.oneCell']) ?_)
 refine bodyPost_ret (v := .tuple #[.agg #[.int .i64 1, .int .i64 alg, .int .i64 1, .int .i64 room, .int .i64 z4, .int .i64 z5, .int .i64 z6, .int .i64 z7, .int .i64 alg, .int .i64 n, .int .i64 1, .int .i64 base, .int .i64 loc, .int .i64 room, .int .i64 0, .int .i64 0, .int .i64 0, .int .i64 0, .int .i64 0, .int .i64 0, .int .i64 0, .int .i64 bs, .int .i64 lc], .bool true]) ?_ rfl ⟨rfl, HUP.out⟩
 exact (results_cell2 (p := 8) (u := 9) (ty := 132) rfl _ _ (w.heap.size + 1) 132 _ _ _ rfl HFIN.out Tryz.underlying132 rfl (by kernel_rfl)).trans rfl
theorem strips_any (alg n base loc room z4 z5 z6 z7 bs lc : Int) (l : List SD) (w : World)
 (hL : ∀ W, Calls Tryz.prog 104 #[.agg #[.int .i64 alg, .int .i64 n, .int .i64 1, .int .i64 base, .int .i64 loc, .int .i64 room]] W fun e w' => (∃ v, e = .returned v ∧ StrRow w' W.heap.size v l) ∧ Up W w') :
 Calls Tryz.prog 77 #[.agg #[.int .i64 1, .int .i64 alg, .int .i64 1, .int .i64 room, .int .i64 z4, .int .i64 z5, .int .i64 z6, .int .i64 z7, .int .i64 alg, .int .i64 n, .int .i64 1, .int .i64 base, .int .i64 loc, .int .i64 room, .int .i64 0, .int .i64 0, .int .i64 0, .int .i64 0, .int .i64 0, .int .i64 0, .int .i64 0, .int .i64 bs, .int .i64 lc]] w fun e w' => (∃ v, e = .returned v ∧ StrRow w' w.heap.size v l) ∧ Up w w' := by
 have HL := hQ' hL
 have HP := hQ' (fun W => parts_one W)
 clear hL
 have ha := heap_alloc_new w (.cells #[.int .i64 1, .int .i64 alg, .int .i64 1, .int .i64 room, .int .i64 z4, .int .i64 z5, .int .i64 z6, .int .i64 z7, .int .i64 alg, .int .i64 n, .int .i64 1, .int .i64 base, .int .i64 loc, .int .i64 room, .int .i64 0, .int .i64 0, .int .i64 0, .int .i64 0, .int .i64 0, .int .i64 0, .int .i64 0, .int .i64 bs, .int .i64 lc] 132)
 have HUW := hQ' (show Up w (w.alloc (.cells #[.int .i64 1, .int .i64 alg, .int .i64 1, .int .i64 room, .int .i64 z4, .int .i64 z5, .int .i64 z6, .int .i64 z7, .int .i64 alg, .int .i64 n, .int .i64 1, .int .i64 base, .int .i64 loc, .int .i64 room, .int .i64 0, .int .i64 0, .int .i64 0, .int .i64 0, .int .i64 0, .int .i64 0, .int .i64 0, .int .i64 bs, .int .i64 lc] 132)) from (Up.refl w).alloc _)
 obtain ⟨W0, hW0⟩ : ∃ x, (w.alloc (.cells #[.int .i64 1, .int .i64 alg, .int .i64 1, .int .i64 room, .int .i64 z4, .int .i64 z5, .int .i64 z6, .int .i64 z7, .int .i64 alg, .int .i64 n, .int .i64 1, .int .i64 base, .int .i64 loc, .int .i64 room, .int .i64 0, .int .i64 0, .int .i64 0, .int .i64 0, .int .i64 0, .int .i64 0, .int .i64 0, .int .i64 bs, .int .i64 lc] 132)) = x := ⟨_, rfl⟩
 rw [hW0] at ha HUW
 have c0 := blk_cells ha 0
 have d0 := blk_cells ha 8
 have d1 := blk_cells ha 9
 have d2 := blk_cells ha 10
 have d3 := blk_cells ha 11
 have d4 := blk_cells ha 12
 have d5 := blk_cells ha 13
 simp only [gA_T, gA_0, gA_S] at c0 d0 d1 d2 d3 d4 d5
 clear ha
 go_enter Tryz.func77, Tryz.ntmps77
 go_wp2_with fail
 refine (HP.out _).mono ?_
 rintro e w1 ⟨rfl, rfl⟩
 go_wp2_with fail
 refine (HL.out _).mono ?_
 rintro e w2 ⟨⟨v, rfl, hv⟩, hu2⟩
 have HV := hQ' (own_base hv HUW.out.size)
 have HU2 := hQ' (HUW.out.trans hu2)
 clear hu2 c0 d0 d1 d2 d3 d4 d5 hv HUW
 obtain ⟨i0, hi', hz0, hz1, hz2⟩ := info_parts infoStr
 have HIE := hQ' hi'
 have HZ1 := hQ' hz1
 clear hi' hz0 hz1 hz2
 go_wp2_with (at_builtin; refine wpList_append_own_none rfl (.tmp 39) (.tmp 40) 103 rfl w.heap.size 152 i0 3 Tryz.underlying103 HIE.out _ _ _ rfl HV.out rfl ?_)
 go_ret
 exact ⟨⟨_, rfl, HV.out⟩, HU2.out⟩
theorem size_any (alg n base loc room z4 z5 z6 z7 bs lc lo : Int) (w : World) (h0 : 0 ≤ lo ∧ lo ≤ 32768)
 (hL : ∀ W, Calls Tryz.prog 107 #[.agg #[.int .i64 alg, .int .i64 n, .int .i64 1, .int .i64 base, .int .i64 loc, .int .i64 room]] W fun e w' => e = .returned (.int .i64 lo) ∧ Up W w') :
 Calls Tryz.prog 78 #[.agg #[.int .i64 1, .int .i64 alg, .int .i64 1, .int .i64 room, .int .i64 z4, .int .i64 z5, .int .i64 z6, .int .i64 z7, .int .i64 alg, .int .i64 n, .int .i64 1, .int .i64 base, .int .i64 loc, .int .i64 room, .int .i64 0, .int .i64 0, .int .i64 0, .int .i64 0, .int .i64 0, .int .i64 0, .int .i64 0, .int .i64 bs, .int .i64 lc]] w fun e w' => e = .returned (.int .i64 (lo + 1)) ∧ Up w w' := by
 have HL := hQ' hL
 have HP := hQ' (fun W => parts_one W)
 have w1 : wrap64 (lo + 1) = lo + 1 := IntWalk.wrap64_in _ (by omega)
 clear hL
 have ha := heap_alloc_new w (.cells #[.int .i64 1, .int .i64 alg, .int .i64 1, .int .i64 room, .int .i64 z4, .int .i64 z5, .int .i64 z6, .int .i64 z7, .int .i64 alg, .int .i64 n, .int .i64 1, .int .i64 base, .int .i64 loc, .int .i64 room, .int .i64 0, .int .i64 0, .int .i64 0, .int .i64 0, .int .i64 0, .int .i64 0, .int .i64 0, .int .i64 bs, .int .i64 lc] 132)
 have HUW := hQ' (show Up w (w.alloc (.cells #[.int .i64 1, .int .i64 alg, .int .i64 1, .int .i64 room, .int .i64 z4, .int .i64 z5, .int .i64 z6, .int .i64 z7, .int .i64 alg, .int .i64 n, .int .i64 1, .int .i64 base, .int .i64 loc, .int .i64 room, .int .i64 0, .int .i64 0, .int .i64 0, .int .i64 0, .int .i64 0, .int .i64 0, .int .i64 0, .int .i64 bs, .int .i64 lc] 132)) from (Up.refl w).alloc _)
 obtain ⟨W0, hW0⟩ : ∃ x, (w.alloc (.cells #[.int .i64 1, .int .i64 alg, .int .i64 1, .int .i64 room, .int .i64 z4, .int .i64 z5, .int .i64 z6, .int .i64 z7, .int .i64 alg, .int .i64 n, .int .i64 1, .int .i64 base, .int .i64 loc, .int .i64 room, .int .i64 0, .int .i64 0, .int .i64 0, .int .i64 0, .int .i64 0, .int .i64 0, .int .i64 0, .int .i64 bs, .int .i64 lc] 132)) = x := ⟨_, rfl⟩
 rw [hW0] at ha HUW
 have c0 := blk_cells ha 0
 have d0 := blk_cells ha 8
 have d1 := blk_cells ha 9
 have d2 := blk_cells ha 10
 have d3 := blk_cells ha 11
 have d4 := blk_cells ha 12
 have d5 := blk_cells ha 13
 simp only [gA_T, gA_0, gA_S] at c0 d0 d1 d2 d3 d4 d5
 clear ha
 go_enter Tryz.func78, Tryz.ntmps78
 go_wp2_with fail
 refine (HP.out _).mono ?_
 rintro e w1 ⟨rfl, rfl⟩
 go_wp2_with fail
 refine (HL.out _).mono ?_
 rintro e w2 ⟨rfl, hu2⟩
 have HU2 := hQ' (HUW.out.trans hu2)
 clear hu2 c0 d0 d1 d2 d3 d4 d5 HUW
 go_wp2_with fail
 go_ret
 exact ⟨rfl, HU2.out⟩
end Go.Proofs.YtpodgcpkccpnfaaGreat

