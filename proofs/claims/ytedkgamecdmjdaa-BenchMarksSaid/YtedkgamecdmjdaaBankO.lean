/-
  A bank in memory, but for its cells: its block, its runs, its map.
-/
import Derived.Test.YtedkgamecdmjdaaBankM
import Derived.Test.YtedkgamecdmjdaaBankN
import Derived.Test.YtedkgamecdmjdaaOver
import Derived.Test.YtedkgamecdmjdaaKeep
set_option linter.unusedVariables false
set_option linter.unusedSimpArgs false
namespace Go.Proofs.Ytedkgamecdmjdaa
open Go.RowKit

structure BankO (w : World) (B h m : Nat) (R : Value) (many : Int) (rs : List (Int × SD)) (by' : Nat → Bool × Int) (sz : Nat) (F : Int → Option Nat) : Prop where
  blk : BankB w h R many m by'
  row : w.ownsRow B 95 4 R rs.length (rcells rs)
  map : MapB w m sz F
  hm : h ≠ m
  rh : R.ownBlock ≠ some h
  rm : R.ownBlock ≠ some m
  geh : B ≤ h
  gem : B ≤ m
theorem BankO.keep {w w' : World} {B h m : Nat} {R : Value} {many : Int} {rs : List (Int × SD)} {by' : Nat → Bool × Int} {sz : Nat} {F : Int → Option Nat} (H : BankO w B h m R many rs by' sz F)
    (eh : w'.heap[h]? = w.heap[h]?) (em : w'.heap[m]? = w.heap[m]?) (er : ∀ k, R.ownBlock = some k → w'.heap[k]? = w.heap[k]?) : BankO w' B h m R many rs by' sz F :=
  ⟨H.blk.same eh, own_same H.row er, H.map.up em, H.hm, H.rh, H.rm, H.geh, H.gem⟩
theorem BankO.up {w w' : World} {B h m : Nat} {R : Value} {many : Int} {rs : List (Int × SD)} {by' : Nat → Bool × Int} {sz : Nat} {F : Int → Option Nat} (H : BankO w B h m R many rs by' sz F) (u : Up w w') : BankO w' B h m R many rs by' sz F :=
  H.keep (u.block h H.blk.lt) (u.block m H.map.isLt) fun k e => u.block k (H.row.lt k e).2

/-- The cells of a new bank. -/
def bankC (many : Int) (m : Nat) : Array Value := #[.slice none 0 0, .int .i64 many, .map (some m), .bool false, .int .i64 0, .bool false, .int .i64 0, .bool false, .int .i64 0, .bool false, .int .i64 0, .bool false, .int .i64 0, .bool false, .int .i64 0, .bool false, .int .i64 0, .bool false, .int .i64 0]
theorem bankB_new {W : World} {h m : Nat} {many : Int} {t : TypeId} (hb : W.heap[h]? = some (.cells (bankC many m) t (0, 0))) : BankB W h (.slice none 0 0) many m (fun _ => (false, 0)) := by
  refine ⟨cell_of_row _ _ 0 _ _ _ hb, cell_of_row _ _ 1 _ _ _ hb, cell_of_row _ _ 2 _ _ _ hb, fun i hi => ?_, fun i hi => ?_, fun j => frozen_of_row _ _ j _ _ hb⟩
  all_goals
    have h8 : i = 0 ∨ i = 1 ∨ i = 2 ∨ i = 3 ∨ i = 4 ∨ i = 5 ∨ i = 6 ∨ i = 7 := by omega
    rcases h8 with rfl | rfl | rfl | rfl | rfl | rfl | rfl | rfl
    all_goals exact cell_of_row _ _ _ _ _ _ hb
theorem bankO_new (w : World) (B : Nat) (many : Int) (t : TypeId) (hB : B ≤ w.heap.size) : BankO ((w.alloc (.map #[] 0)).alloc (.cells (bankC many w.heap.size) t)) B (w.heap.size + 1) w.heap.size (.slice none 0 0) many [] (fun _ => (false, 0)) 0 (fun _ => none) := by
  have hb := heap_alloc_new (w.alloc (.map #[] 0)) (.cells (bankC many w.heap.size) t)
  rw [World.size_alloc] at hb
  have hM := mapB_start ((World.ownsMap_made w Try.prog 3 ptrR).alloc (.cells (bankC many w.heap.size) t))
  exact ⟨bankB_new hb, ⟨rfl, .inl ⟨rfl, rfl⟩⟩, hM, by omega, by simp [Value.ownBlock], by simp [Value.ownBlock], by omega, hB⟩
/-- A run is laid behind the others. -/
theorem bankO_append {w W w1 : World} {B h m g1 cap : Nat} {R : Value} {many : Int} {rs : List (Int × SD)} {by' : Nat → Bool × Int} {sz : Nat} {F : Int → Option Nat} {r : Int × SD} (H : BankO w B h m R many rs by' sz F) (u : Up w W)
    (hown : w1.ownsRow B 95 4 (.slice (some ⟨g1, 0, none⟩) (rs.length + 1) cap) (rs.length + 1) (rcells rs ++ rcell r)) (hg : W.grownBy w1 R.ownBlock) (hor : R.ownBlock = some g1 ∨ w.heap.size ≤ g1) :
    (w1.cell? ⟨h, 0, none⟩ = some R ∧ w1.frozen? ⟨h, 0, none⟩ = false) ∧ BankO (w1.setCell ⟨h, 0, none⟩ (.slice (some ⟨g1, 0, none⟩) (rs.length + 1) cap)) B h m (.slice (some ⟨g1, 0, none⟩) (rs.length + 1) cap) many (rs ++ [r]) by' sz F := by
  have hk : ∀ k, k < w.heap.size → R.ownBlock ≠ some k → w1.heap[k]? = w.heap[k]? := fun k h1 h2 => (hg.block k (Nat.lt_of_lt_of_le h1 u.size) (fun e => h2 e.symm)).trans (u.block k h1)
  have hh : w1.heap[h]? = w.heap[h]? := hk h H.blk.lt H.rh
  have hmm : w1.heap[m]? = w.heap[m]? := hk m H.map.isLt H.rm
  have hgh : g1 ≠ h := by
    rcases hor with e | e
    · exact fun e2 => H.rh (by rw [← e2]; exact e)
    · have := H.blk.lt; omega
  have hgm : g1 ≠ m := by
    rcases hor with e | e
    · exact fun e2 => H.rm (by rw [← e2]; exact e)
    · have := H.map.isLt; omega
  have k0 : w1.cell? ⟨h, 0, none⟩ = some R := (cellE hh).trans H.blk.k0
  have ho : ∀ j, j ≠ 0 → (w1.setCell ⟨h, 0, none⟩ (.slice (some ⟨g1, 0, none⟩) (rs.length + 1) cap)).cell? ⟨h, j, none⟩ = w.cell? ⟨h, j, none⟩ := fun j hj => (World.cell?_setCell_other _ _ _ _ (by simp <;> omega)).trans (cellE hh)
  refine ⟨⟨k0, (frozenE hh).trans (H.blk.fz 0)⟩, ⟨⟨World.cell?_setCell_same _ _ _ k0, (ho 1 (by decide)).trans H.blk.k1, (ho 2 (by decide)).trans H.blk.k2, fun t ht => (ho _ (by omega)).trans (H.blk.on t ht), fun t ht => (ho _ (by omega)).trans (H.blk.at' t ht), fun j => ?_⟩, ?_, ?_, H.hm, ?_, ?_, H.geh, H.gem⟩⟩
  · have : (w1.setCell ⟨h, 0, none⟩ (.slice (some ⟨g1, 0, none⟩) (rs.length + 1) cap)).frozen? ⟨h, j, none⟩ = w1.frozen? ⟨h, j, none⟩ := by simp [go_sem]
    rw [this]
    exact (frozenE hh).trans (H.blk.fz j)
  · rw [List.length_append, rcells_append]
    refine own_same (by simpa [rcells] using hown) fun k e => Below.heap_setCell w1 ⟨h, 0, none⟩ _ k (show k ≠ h from ?_)
    simp only [Value.ownBlock, Option.some.injEq] at e
    omega
  · exact H.map.up ((Below.heap_setCell w1 ⟨h, 0, none⟩ _ m (fun e => H.hm e.symm)).trans hmm)
  · simp only [Value.ownBlock, ne_eq, Option.some.injEq]; exact hgh
  · simp only [Value.ownBlock, ne_eq, Option.some.injEq]; exact hgm

end Go.Proofs.Ytedkgamecdmjdaa
