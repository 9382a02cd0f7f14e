/-
  slices.Backward over the chapter's two events: its contract.
-/
import Derived.Test.YtpefcbmmbpcalaaOfA
set_option linter.unusedVariables false
set_option linter.unusedSimpArgs false
namespace Go.Proofs.Ytpefcbmmbpcalaa
open Go.RowKit Go.Shelf
attribute [local go_sem] Oper.semAt_some

/-- What comes: the return event (true), the call event (false). -/
def encE : Bool → Array Value
  | true => #[.int .i64 1, evagg 5 2]
  | false => #[.int .i64 0, evagg 3 1]
def KeepB (n₀ Bs : Nat) (W W' : World) : Prop := Below n₀ W W' ∧ W'.heap[Bs]? = W.heap[Bs]?
theorem keepB_t {n₀ Bs : Nat} {A B C : World} (h : KeepB n₀ Bs A B) (k : KeepB n₀ Bs B C) : KeepB n₀ Bs A C := ⟨h.1.trans k.1, k.2.trans h.2⟩
theorem keepB_b {n₀ Bs : Nat} {w : World} (hn : n₀ ≤ w.heap.size) (hB : Bs < w.heap.size) (W : World) (l : Nat) (o o' : Obj) (hl : w.heap.size ≤ l) (h : W.heap[l]? = some o) (h1 : o.isCells = false) (h2 : o.isWalk = false) : KeepB n₀ Bs W (W.putObj l o') :=
  ⟨belowK_b hn W l o o' hl h h1 h2, World.putObj_heap_other (by omega)⟩

/-- Two events in a block. -/
def EvRow (w : World) (g : Nat) : Prop := w.heap[g]? = some (.cells #[.int .i64 3, .int .i64 1, .int .i64 0, .int .i64 0, .int .i64 0, .int .i64 0, .int .i64 0, .int .i64 5, .int .i64 2, .int .i64 0, .int .i64 0, .int .i64 0, .int .i64 0, .int .i64 0] 49 (0, 0))
theorem EvRow.cells {w : World} {g : Nat} (h : EvRow w g) :
    (w.cell? ⟨g, 0, none⟩ = some (.int .i64 3) ∧ w.cell? ⟨g, 1, none⟩ = some (.int .i64 1) ∧ w.cell? ⟨g, 2, none⟩ = some (.int .i64 0) ∧ w.cell? ⟨g, 3, none⟩ = some (.int .i64 0) ∧ w.cell? ⟨g, 4, none⟩ = some (.int .i64 0) ∧ w.cell? ⟨g, 5, none⟩ = some (.int .i64 0) ∧ w.cell? ⟨g, 6, none⟩ = some (.int .i64 0)) ∧
    (w.cell? ⟨g, 7, none⟩ = some (.int .i64 5) ∧ w.cell? ⟨g, 8, none⟩ = some (.int .i64 2) ∧ w.cell? ⟨g, 9, none⟩ = some (.int .i64 0) ∧ w.cell? ⟨g, 10, none⟩ = some (.int .i64 0) ∧ w.cell? ⟨g, 11, none⟩ = some (.int .i64 0) ∧ w.cell? ⟨g, 12, none⟩ = some (.int .i64 0) ∧ w.cell? ⟨g, 13, none⟩ = some (.int .i64 0)) :=
  ⟨⟨cell_of_row _ _ 0 _ _ _ h, cell_of_row _ _ 1 _ _ _ h, cell_of_row _ _ 2 _ _ _ h, cell_of_row _ _ 3 _ _ _ h, cell_of_row _ _ 4 _ _ _ h, cell_of_row _ _ 5 _ _ _ h, cell_of_row _ _ 6 _ _ _ h⟩,
   ⟨cell_of_row _ _ 7 _ _ _ h, cell_of_row _ _ 8 _ _ _ h, cell_of_row _ _ 9 _ _ _ h, cell_of_row _ _ 10 _ _ _ h, cell_of_row _ _ 11 _ _ _ h, cell_of_row _ _ 12 _ _ _ h, cell_of_row _ _ 13 _ _ _ h⟩⟩

set_option maxRecDepth 100000 in
set_option maxHeartbeats 1000000 in
theorem backward1_in (n : Nat) (hn : 1 ≤ n) (l Bs n₀ g : Nat) (hg : g < n₀) (J Jx : List Bool → World → Prop)
    (hY : ∀ pre x W, J pre W → pre.length < 2 → YieldAt Fence.wide (n - 1) Try.prog l (encE x) W fun e W' =>
      (e = .returned (.bool true) ∧ J (pre ++ [x]) W' ∧ KeepB n₀ Bs W W') ∨ (e = .returned (.bool false) ∧ Jx (pre ++ [x]) W'))
    (W : World) (hBs : Boxed W Bs 50 (.slice (some ⟨g, 0, none⟩) 2 2)) (hE : EvRow W g) (h0 : J [] W) :
    CallsIn Fence.wide n Try.prog 38 #[.func (.yield l) #[] #[], .pointer (some ⟨Bs, 0, none⟩)] W fun e W' => (∃ v, e = .returned v) ∧
      ((∃ xs, xs = [true, false] ∧ J xs W') ∨ (∃ pre, (pre = [true] ∨ pre = [true, false]) ∧ Jx pre W')) := by
  have hcs := hBs.cell
  refine callsIn_of_wp Try.func38 rfl trivial ?_ rfl
  simp only [Try.ntmps38, List.size_toArray, List.length_cons, List.length_nil, Nat.reduceAdd, Nat.reduceSub, Array.replicate_succ, Array.replicate_zero, List.push_toArray, List.append_toArray, List.nil_append, List.cons_append]
  gi_wp2
  gi_loopw [3] (fun i wr => ((i = .int .i64 1 ∧ J [] wr) ∨ (i = .int .i64 0 ∧ J [true] wr) ∨ (i = .int .i64 (-1) ∧ J [true, false] wr)) ∧ KeepB n₀ Bs W wr)
    (fun i _ => (intOf i + 1).toNat)
  case atStart => exact ⟨.inl ⟨rfl, h0⟩, Below.refl _ _, rfl⟩
  case round =>
    obtain ⟨hcase, hkb⟩ := hrel
    have hB2 : Boxed wr Bs 50 (.slice (some ⟨g, 0, none⟩) 2 2) := hkb.2.trans hBs
    have hE2 : EvRow wr g := (hkb.1.block g hg).trans hE
    have hc2 := hB2.cell
    obtain ⟨⟨a0, a1, a2, a3, a4, a5, a6⟩, ⟨b0, b1, b2, b3, b4, b5, b6⟩⟩ := hE2.cells
    clear hcs
    rcases hcase with ⟨rfl, hJ⟩ | ⟨rfl, hJ⟩ | ⟨rfl, hJ⟩
    · obtain ⟨fn, tmps, assign, body, hy, hR⟩ := hY _ true wr hJ (by simp)
      dsimp only [encE, evagg] at hy
      gi_wp2
      refine hR.mono ?_
      rintro e W3 (⟨rfl, hJ3, hk3⟩ | ⟨rfl, hJx3⟩)
      · gi_wp2
        go_roundw
        case rel => exact ⟨.inr (.inl ⟨by rfl, hJ3⟩), keepB_t hkb hk3⟩
        case measure => simp [intOf]
      · gi_wp2
        refine bodyPost_ret (results_none rfl _ _ _) rfl ?_
        exact ⟨⟨_, rfl⟩, .inr ⟨_, .inl rfl, hJx3⟩⟩
    · obtain ⟨fn, tmps, assign, body, hy, hR⟩ := hY _ false wr hJ (by simp)
      dsimp only [encE, evagg] at hy
      gi_wp2
      refine hR.mono ?_
      rintro e W3 (⟨rfl, hJ3, hk3⟩ | ⟨rfl, hJx3⟩)
      · gi_wp2
        go_roundw
        case rel => exact ⟨.inr (.inr ⟨by rfl, hJ3⟩), keepB_t hkb hk3⟩
        case measure => simp [intOf]
      · gi_wp2
        refine bodyPost_ret (results_none rfl _ _ _) rfl ?_
        exact ⟨⟨_, rfl⟩, .inr ⟨_, .inr rfl, hJx3⟩⟩
    · gi_wp2
      go_end0
      exact ⟨⟨_, rfl⟩, .inl ⟨_, rfl, hJ⟩⟩

theorem backward1_stops (n : Nat) (hn : 1 ≤ n) (Bs n₀ g : Nat) (w : World) (hg : g < n₀) (hBl : Bs < w.heap.size) (hn₀ : n₀ ≤ w.heap.size) (hBs : Boxed w Bs 50 (.slice (some ⟨g, 0, none⟩) 2 2)) (hE : EvRow w g) :
    SeqStopsK Fence.wide n Try.prog 38 #[.pointer (some ⟨Bs, 0, none⟩)] encE (KeepB n₀ Bs) (fun xs => xs = [true, false]) (fun pre => pre = [true] ∨ pre = [true, false]) 2 w := fun l J Jx W hW _ _ hY h0 =>
  backward1_in n hn l Bs n₀ g hg J Jx hY W ((hW.block Bs hBl).trans hBs) ((hW.block g (by omega)).trans hE) h0

end Go.Proofs.Ytpefcbmmbpcalaa
