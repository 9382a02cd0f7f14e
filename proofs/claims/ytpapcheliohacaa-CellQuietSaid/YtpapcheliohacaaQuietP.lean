/-
  Without overlapping all kinds are the same.
-/
import Derived.Test.YtpapcheliohacaaLives
set_option linter.unusedVariables false
set_option linter.unusedSimpArgs false
namespace Go.Proofs.Ytpapcheliohacaa
open Go.RowKit

def Quiet (c : CS) : Prop := ∀ i, (c.bys i).on = false
theorem Quiet.new (kind top : Int) : Quiet (CS.new kind top) := fun i => rfl
theorem Quiet.put {c : CS} (q : Quiet c) (t : Nat) (a : Acc8) : Quiet ((c.put t a).put t acc0) := fun i => by
  unfold CS.put
  dsimp only
  split
  · rfl
  · rename_i h; first | (rw [if_neg h]; exact q i) | exact q i
theorem Quiet.busy {c : CS} (q : Quiet c) : ∀ n, busyN c n = 0
  | 0 => rfl
  | n + 1 => by unfold busyN; rw [Quiet.busy q n, q n]; rfl
theorem Quiet.read {c : CS} (q : Quiet c) : ∀ n, readN c n = ⟨true, false, 0, false, if c.kind = 2 then [c.value] else []⟩
  | 0 => rfl
  | n + 1 => by unfold readN; rw [if_neg (by rw [q n]; simp)]; exact Quiet.read q n
theorem Quiet.wr {c : CS} (q : Quiet c) (v : Int) : ∀ n, wrN c v n = c
  | 0 => rfl
  | n + 1 => by unfold wrN; rw [Quiet.wr q v n, if_neg (by rw [q n]; simp)]
theorem put_same (c : CS) (t : Nat) (a : Acc8) : (c.put t a).bys t = a := by unfold CS.put; simp
theorem wrapI_zero (d : Int) : wrapI d 0 = 0 := by
  have := wrapI_in d 0
  omega
theorem quiet_write {c : CS} (q : Quiet c) (t : Nat) (ht : t < 8) (v d : Int) : (c.begin t 2 v).1 = 0 ∧ ((c.begin t 2 v).2.endA t d).1 = 0 ∧ ((c.begin t 2 v).2.endA t d).2.1 = 0 ∧ Quiet ((c.begin t 2 v).2.endA t d).2.2 ∧ ((c.begin t 2 v).2.endA t d).2.2.kind = c.kind ∧ ((c.begin t 2 v).2.endA t d).2.2.top = c.top ∧ ((c.begin t 2 v).2.endA t d).2.2.value = clampT v c.top := by
  have e : c.begin t 2 v = (0, c.put t ⟨true, true, clampT v c.top, false, []⟩) := by
    unfold CS.begin
    rw [if_neg (by omega), Int.toNat_natCast, if_neg (by rw [q t]; simp), if_neg (by decide), q.wr]
  have e2 : (c.put t ⟨true, true, clampT v c.top, false, []⟩).endA t d = (0, 0, { (c.put t ⟨true, true, clampT v c.top, false, []⟩).put t acc0 with value := clampT v c.top }) := by
    unfold CS.endA
    rw [if_neg (by omega), Int.toNat_natCast, put_same, if_neg (by simp), if_pos rfl]
  rw [e]
  dsimp only
  rw [e2]
  exact ⟨rfl, rfl, rfl, fun i => q.put t _ i, rfl, rfl, rfl⟩
theorem quiet_read {c : CS} (q : Quiet c) (t : Nat) (ht : t < 8) (v d : Int) : (c.begin t 1 v).1 = 0 ∧ ((c.begin t 1 v).2.endA t d).1 = c.value ∧ ((c.begin t 1 v).2.endA t d).2.1 = 0 ∧ Quiet ((c.begin t 1 v).2.endA t d).2.2 ∧ ((c.begin t 1 v).2.endA t d).2.2.kind = c.kind ∧ ((c.begin t 1 v).2.endA t d).2.2.top = c.top ∧ ((c.begin t 1 v).2.endA t d).2.2.value = c.value := by
  have e : c.begin t 1 v = (0, c.put t ⟨true, false, 0, false, if c.kind = 2 then [c.value] else []⟩) := by
    unfold CS.begin
    rw [if_neg (by omega), Int.toNat_natCast, if_neg (by rw [q t]; simp), if_pos rfl, q.read]
  have hv : tellC (c.put t ⟨true, false, 0, false, if c.kind = 2 then [c.value] else []⟩) ⟨true, false, 0, false, if c.kind = 2 then [c.value] else []⟩ d = c.value := by
    unfold tellC
    rw [if_neg (by simp)]
    by_cases h2 : c.kind = 2
    · rw [if_pos (show (c.put t _).kind = 2 from h2)]
      simp only [if_pos h2]
      simp [wrapI_zero]
    · rw [if_neg (show ¬ (c.put t _).kind = 2 from h2)]
      rfl
  have e2 : (c.put t ⟨true, false, 0, false, if c.kind = 2 then [c.value] else []⟩).endA t d = (c.value, 0, (c.put t ⟨true, false, 0, false, if c.kind = 2 then [c.value] else []⟩).put t acc0) := by
    unfold CS.endA
    rw [if_neg (by omega), Int.toNat_natCast, put_same, if_neg (by simp), if_neg (by simp), hv]
  rw [e]
  dsimp only
  rw [e2]
  exact ⟨rfl, rfl, rfl, fun i => q.put t _ i, rfl, rfl, rfl⟩

end Go.Proofs.Ytpapcheliohacaa
