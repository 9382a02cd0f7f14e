/-
  hist.Of at the chapter's example: called, Reverse, Backward.
-/
import Derived.Test.YtpefcbmmbpcalaaOpd
import Derived.BigQuiet
import Derived.RangeFuncNested
import Derived.RangeFuncBound
import Derived.RangeFuncCalls
import Derived.RangeFuncLeaves
import Derived.Shelf.Abstract
import Derived.Shelf.RegionOpen
import Derived.OwnWalkIn
import Derived.TacticsInMore
import Derived.LoopNIn
import Derived.LoopIn
import Derived.Laws.ResultCell
import Derived.Deep.RegionHeld3
set_option linter.unusedVariables false
set_option linter.unusedSimpArgs false
namespace Go.Proofs.Ytpefcbmmbpcalaa
open Go.RowKit Go.Shelf

/-- An event of the first call of the first thread. -/
def evagg (at' kind : Int) : Value := .agg #[.int .i64 at', .int .i64 kind, .int .i64 0, .int .i64 0, .int .i64 0, .int .i64 0, .int .i64 0]
def scagg (pb : Nat) : Value := .agg #[.slice none 0 0, .slice (some ⟨pb, 0, none⟩) 1 1, .slice none 0 0, .slice none 0 0]

theorem results_cell2 {P : Program} {fn : Func} {p u : Tmp} {ty : TypeId} (h : fn.results = #[.cell p ty, .tmp u]) (tmps : Array Value) (w : World) (g : Nat) (t : TypeId) (cs : Array Value) (fr : Nat × Nat) (d : TypeDesc)
    (hp : tmps.getD p undef = .pointer (some ⟨g, 0, none⟩)) (hg : w.heap[g]? = some (.cells cs t fr))
    (hu : P.underlying ty = some d) (hd : (match d with | .struct _ | .array _ _ => true | _ => false) = true) (hi : (P.info? ty).map (·.size) = some cs.size) :
    (results fn tmps).run P w = .ok (.tuple #[.agg cs, tmps.getD u undef]) w := by
  rw [results_cell_tmp h, hp]
  simp [asAddr, Result.andThen, run_loadVar_row w g t ty cs fr d hg hu hd hi]

set_option maxRecDepth 10000 in
set_option maxHeartbeats 400000 in
theorem called_one (at' kind : Int) (pb qb : Nat) (w : World) (hp : w.cell? ⟨pb, 0, none⟩ = some (.slice (some ⟨qb, 0, none⟩) 1 1))
    (h0 : w.cell? ⟨qb, 0, none⟩ = some (.int .i64 16)) (h1 : w.cell? ⟨qb, 1, none⟩ = some (.int .i64 2)) (h2 : w.cell? ⟨qb, 2, none⟩ = some (.int .i64 7)) :
    Calls Try.prog 32 #[scagg pb, evagg at' kind] w fun e w' => e = .returned (.tuple #[.agg #[.int .i64 16, .int .i64 2, .int .i64 7], .bool true]) ∧ Up w w' := by
  unfold scagg evagg
  have hu : Up w (((w.alloc (.cells #[.slice none 0 0, .slice (some ⟨pb, 0, none⟩) 1 1, .slice none 0 0, .slice none 0 0] 44)).alloc (.cells #[.int .i64 at', .int .i64 kind, .int .i64 0, .int .i64 0, .int .i64 0, .int .i64 0, .int .i64 0] 49)).alloc (.cells #[.int .i64 0, .int .i64 0, .int .i64 0] 37)) := (((Up.refl w).alloc _).alloc _).alloc _
  have gp := (hu.cell (cell_lt hp)).trans hp
  have g0 := (hu.cell (cell_lt h0)).trans h0
  have g1 := (hu.cell (cell_lt h1)).trans h1
  have g2 := (hu.cell (cell_lt h2)).trans h2
  have HU := Lib.hid hu
  clear hu hp h0 h1 h2
  go_enter Try.func32, Try.ntmps32
  go_wp2_with fail
  have hs : ((w.alloc (.cells #[.slice none 0 0, .slice (some ⟨pb, 0, none⟩) 1 1, .slice none 0 0, .slice none 0 0] 44)).alloc (.cells #[.int .i64 at', .int .i64 kind, .int .i64 0, .int .i64 0, .int .i64 0, .int .i64 0, .int .i64 0] 49)).heap.size = w.heap.size + 1 + 1 := by simp
  have hb := heap_alloc_new ((w.alloc (.cells #[.slice none 0 0, .slice (some ⟨pb, 0, none⟩) 1 1, .slice none 0 0, .slice none 0 0] 44)).alloc (.cells #[.int .i64 at', .int .i64 kind, .int .i64 0, .int .i64 0, .int .i64 0, .int .i64 0, .int .i64 0] 49)) (.cells #[.int .i64 16, .int .i64 2, .int .i64 7] 37)
  rw [hs] at hb
  refine bodyPost_ret (v := .tuple #[.agg #[.int .i64 16, .int .i64 2, .int .i64 7], .bool true]) ?_ rfl ⟨rfl, (((Up.refl w).alloc _).alloc _).alloc _⟩
  exact (results_cell2 (p := 4) (u := 5) (ty := 37) rfl _ _ (w.heap.size + 1 + 1) 37 _ _ _ rfl hb Try.underlying37 rfl (by kernel_rfl)).trans rfl

set_option maxRecDepth 10000 in
set_option maxHeartbeats 400000 in
theorem reverse_one (A : Option Addr) (c : Nat) (w : World) : Calls Try.prog 33 #[.slice A 1 c] w fun e w' => (∃ v, e = .returned v) ∧ w = w' := by
  go_enter Try.func33, Try.ntmps33
  go_wp2_with fail
  go_loopw [2, 3] (fun i j wr => i = .int .i64 0 ∧ j = .int .i64 0 ∧ w = wr) (fun _ _ _ => 0)
  case atStart => exact ⟨rfl, rfl, rfl⟩
  case round =>
    obtain ⟨rfl, rfl, rfl⟩ := hrel
    go_wp2_with fail
    go_end0
    exact ⟨⟨_, rfl⟩, rfl⟩

set_option maxHeartbeats 400000 in
theorem backward_any (A : Option Addr) (n c : Nat) (w : World) : Calls Try.prog 31 #[.slice A n c] w fun e w' => e = .returned (.func (.func 38) #[] #[.pointer (some ⟨w.heap.size, 0, none⟩)]) ∧ w.alloc (.cells #[.slice A n c] 50) = w' := by
  have HMF := Lib.hid (show ∀ (fn : Fn) (first cap : Array Value) (w : World), (Instr.makeFunc fn first cap).run Try.prog w = .ok (.func fn first cap) w from fun _ _ _ _ => rfl)
  go_enter Try.func31, Try.ntmps31
  go_wp2_with fail
  go_ret
  exact ⟨rfl, rfl⟩

end Go.Proofs.Ytpefcbmmbpcalaa
