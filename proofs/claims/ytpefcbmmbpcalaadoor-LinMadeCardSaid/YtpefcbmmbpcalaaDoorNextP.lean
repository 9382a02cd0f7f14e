/-
  order.Next, the plain law: what the program reckons is the document's.
-/
import Derived.Test.YtpefcbmmbpcalaaDoorFree
import Derived.Test.YtpefcbmmbpcalaaDoorNext
import Derived.Test.YtpefcbmmbpcalaaDoorFinP
set_option linter.unusedVariables false
set_option linter.unusedSimpArgs false
namespace Go.Proofs.YtpefcbmmbpcalaaDoor
open Go.RowKit

theorem ahead_iff {a b : OpD} : aheadB a b = true ↔ a.to ≠ -1 ∧ a.to < b.frm := by
  unfold aheadB
  rw [Bool.and_eq_true, bne_iff_ne, decide_eq_true_iff]
theorem ahead_self {l : List OpD} (hf : fineP l = true) {i : Nat} (hi : i < l.length) : aheadB (l.getD i op0) (l.getD i op0) = false := by
  cases h : aheadB (l.getD i op0) (l.getD i op0)
  · rfl
  · obtain ⟨h1, h2⟩ := ahead_iff.1 h
    have := (okOp_parts (fineP_at hf i hi)).2.1
    omega
theorem range_split (n m : Nat) (h : n ≤ m) (f : Nat → Bool) : (List.range m).filter (fun i => decide (i < n) && f i) = (List.range n).filter f := by
  obtain ⟨d, rfl⟩ : ∃ d, m = n + d := ⟨m - n, by omega⟩
  rw [List.range_add, List.filter_append]
  have e1 : (List.range n).filter (fun i => decide (i < n) && f i) = (List.range n).filter f := List.filter_congr (fun i hi => by rw [decide_eq_true (List.mem_range.1 hi), Bool.true_and])
  have e2 : ((List.range d).map (n + ·)).filter (fun i => decide (i < n) && f i) = [] := List.filter_eq_nil_iff.2 (fun i hi => by
    obtain ⟨j, _, rfl⟩ := List.mem_map.1 hi
    rw [decide_eq_false (by omega)]; simp)
  rw [e1, e2, List.append_nil]
theorem bitsL_left (n d : Nat) (hn : n ≤ 64) : bitsL (leftN n d) = (List.range n).filter (fun i => !hasB d i) := by
  unfold bitsL
  rw [← range_split n 64 hn]
  exact List.filter_congr (fun i _ => leftN_has hn)
theorem free_may {l : List OpD} {d i : Nat} (hf : fineP l = true) (hl : l.length ≤ 64) (hi : i < l.length) (hd : hasB d i = false) : freeB l (leftN l.length d) i = mayB l d i := by
  have hmay : mayB l d i = (!hasB d i && (List.range l.length).all fun k => hasB d k || !aheadB (l.getD k op0) (l.getD i op0)) := rfl
  rw [hmay, hd, Bool.not_false, Bool.true_and]
  unfold freeB
  rw [bitsL_left _ _ hl]
  rw [Bool.eq_iff_iff, List.all_eq_true, List.all_eq_true]
  constructor
  · intro h k hk
    cases hk2 : hasB d k
    · have := h k (List.mem_filter.2 ⟨hk, by rw [hk2]; rfl⟩)
      unfold okJ at this
      rw [Bool.false_or]
      by_cases hki : k = i
      · subst hki
        rw [ahead_self hf hi]; rfl
      · rw [beq_eq_false_iff_ne.2 hki, Bool.false_or] at this
        exact this
    · rfl
  · intro h k hk
    obtain ⟨hk1, hk2⟩ := List.mem_filter.1 hk
    have := h k hk1
    rw [Bool.not_eq_true'] at hk2
    rw [hk2, Bool.false_or] at this
    unfold okJ
    rw [this, Bool.or_true]
theorem next_eq {l : List OpD} {d : Nat} (hf : fineP l = true) (hl : l.length ≤ 64) : (bitsL (leftN l.length d)).filter (freeB l (leftN l.length d)) = nextL l d := by
  rw [bitsL_left _ _ hl, List.filter_filter]
  show _ = (List.range l.length).filter (mayB l d)
  apply List.filter_congr
  intro i hi
  cases hd : hasB d i
  · rw [free_may hf hl (List.mem_range.1 hi) hd]; simp
  · have hmay : mayB l d i = (!hasB d i && (List.range l.length).all fun k => hasB d k || !aheadB (l.getD k op0) (l.getD i op0)) := rfl
    rw [hmay, hd]; simp

end Go.Proofs.YtpefcbmmbpcalaaDoor
