/-
  Which histories may be, as plain data.
-/
import Derived.Test.YtpefcbmmbpcalaaDoorAhd
set_option linter.unusedVariables false
set_option linter.unusedSimpArgs false
namespace Go.Proofs.YtpefcbmmbpcalaaDoor
open Go.RowKit

/-- The last one of a thread among the first j. -/
def lastOf (l : List OpD) (t : Int) : Nat → Option OpD
  | 0 => none
  | j + 1 => if (l.getD j op0).thr = t then some (l.getD j op0) else lastOf l t j
def fromJ (l : List OpD) (j : Nat) : Int := if j = 0 then 0 else (l.getD (j - 1) op0).frm
def okLast (p : Option OpD) (o : OpD) : Bool := match p with | none => true | some q => aheadB q o
def okOp (l : List OpD) (j : Nat) : Bool := !decide ((l.getD j op0).frm < fromJ l j) && !(((l.getD j op0).to != -1) && decide ((l.getD j op0).to < (l.getD j op0).frm)) && (decide (0 ≤ (l.getD j op0).thr) && decide ((l.getD j op0).thr < 8)) && okLast (lastOf l (l.getD j op0).thr j) (l.getD j op0)
def fineP (l : List OpD) : Bool := (List.range l.length).all (okOp l)
theorem fineP_all {l : List OpD} (h : ∀ i, i < l.length → okOp l i = true) : fineP l = true := by
  unfold fineP; rw [List.all_eq_true]; intro i hi; exact h i (List.mem_range.1 hi)
theorem fineP_at {l : List OpD} (h : fineP l = true) : ∀ i, i < l.length → okOp l i = true := by
  unfold fineP at h; rw [List.all_eq_true] at h; intro i hi; exact h i (List.mem_range.2 hi)
theorem fineP_no {l : List OpD} {i : Nat} (hi : i < l.length) (h : okOp l i = false) : fineP l = false := by
  cases hf : fineP l
  · rfl
  · rw [fineP_at hf i hi] at h; cases h
theorem okOp_parts {l : List OpD} {j : Nat} (h : okOp l j = true) : fromJ l j ≤ (l.getD j op0).frm ∧ ((l.getD j op0).to = -1 ∨ (l.getD j op0).frm ≤ (l.getD j op0).to) ∧ (0 ≤ (l.getD j op0).thr ∧ (l.getD j op0).thr < 8) ∧ okLast (lastOf l (l.getD j op0).thr j) (l.getD j op0) = true := by
  unfold okOp at h
  rw [Bool.and_eq_true, Bool.and_eq_true, Bool.and_eq_true, Bool.and_eq_true] at h
  obtain ⟨⟨⟨h1, h2⟩, h3, h4⟩, h5⟩ := h
  refine ⟨by simpa using h1, ?_, ⟨of_decide_eq_true h3, of_decide_eq_true h4⟩, h5⟩
  by_cases ht : (l.getD j op0).to = -1
  · exact .inl ht
  · right
    have hb : ((l.getD j op0).to != -1) = true := by rw [bne_iff_ne]; exact ht
    rw [hb] at h2
    simpa using h2
theorem frm_nonneg {l : List OpD} : ∀ j, (∀ i, i < j → okOp l i = true) → 0 ≤ fromJ l j
  | 0, _ => by simp [fromJ]
  | j + 1, h => by
    have h1 := (okOp_parts (h j (by omega))).1
    have h2 := frm_nonneg j (fun i hi => h i (by omega))
    unfold fromJ
    rw [if_neg (by omega)]
    show 0 ≤ (l.getD j op0).frm
    omega

end Go.Proofs.YtpefcbmmbpcalaaDoor
