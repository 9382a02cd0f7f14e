/-
  An order that may have been: the search as plain data.
-/
import Derived.Test.YtpefcbmmbpcalaaDoorNext
set_option linter.unusedVariables false
set_option linter.unusedSimpArgs false
namespace Go.Proofs.YtpefcbmmbpcalaaDoor
open Go.RowKit

abbrev St := Nat × Int
def st0 : St := (0, 0)
def scell (s : St) : List Value := [.int .u64 (s.1 : Int), .int .i64 s.2]
def scells (l : List St) : List Value := l.flatMap scell
theorem scells_append (l m : List St) : scells (l ++ m) = scells l ++ scells m := by unfold scells; rw [List.flatMap_append]
theorem scells_at (l : List St) : ∀ k, k < l.length → ∀ j, j < 2 → (scells l)[k * 2 + j]? = (scell (l.getD k st0))[j]? := by
  induction l with
  | nil => intro k hk; simp at hk
  | cons a l ih =>
    intro k hk j hj
    have e : scells (a :: l) = scell a ++ scells l := rfl
    have e5 : (scell a).length = 2 := rfl
    rw [e]
    cases k with
    | zero =>
      rw [Nat.zero_mul, Nat.zero_add, List.getElem?_append_left (by omega)]
      rfl
    | succ k =>
      rw [List.getElem?_append_right (by omega), e5, show (k + 1) * 2 + j - 2 = k * 2 + j by omega]
      exact ih k (by simpa using hk) j hj
def leftK (l : List OpD) (d k : Nat) : Bool := (List.range k).any fun i => (l.getD i op0).to != -1 && !hasB d i
def leftB (l : List OpD) (d : Nat) : Bool := leftK l d l.length
theorem leftK_succ (l : List OpD) (d k : Nat) : leftK l d (k + 1) = (leftK l d k || ((l.getD k op0).to != -1 && !hasB d k)) := by
  unfold leftK
  rw [List.range_succ, List.any_append]
  simp
def tellsB (o : OpD) (v : Int) : Bool := o.wr || o.to == -1 || o.val == v
def afterV (o : OpD) (v : Int) : Int := if o.wr then o.val else v
def child (l : List OpD) (d : Nat) (v : Int) (i : Nat) : St := (withN d i, afterV (l.getD i op0) v)
inductive Comp (l : List OpD) : Nat → Int → Prop
  | all (d : Nat) (v : Int) : leftB l d = false → Comp l d v
  | pick (d : Nat) (v : Int) (i : Nat) : i ∈ nextL l d → tellsB (l.getD i op0) v = true → Comp l (withN d i) (afterV (l.getD i op0) v) → Comp l d v
def Closed (l : List OpD) (T : List St) (s : St) : Prop := leftB l s.1 = true ∧ ∀ i ∈ nextL l s.1, tellsB (l.getD i op0) s.2 = true → child l s.1 s.2 i ∈ T
theorem Closed.more {l : List OpD} {T : List St} {s : St} (h : Closed l T s) (E : List St) : Closed l (T ++ E) s := ⟨h.1, fun i hi ht => List.mem_append_left _ (h.2 i hi ht)⟩
theorem Comp.closed {l : List OpD} {T : List St} (h : ∀ s ∈ T, Closed l T s) {d : Nat} {v : Int} (c : Comp l d v) : (d, v) ∉ T := by
  induction c with
  | all d v hl => intro hm; have := (h _ hm).1; simp only at this; rw [hl] at this; cases this
  | pick d v i hi ht _ ih => exact fun hm => ih ((h _ hm).2 i hi ht)
/-- What the search's answer tells. -/
def HasOut (l : List OpD) (d : Nat) (v : Int) (T : List St) (ok : Bool) (T' : List St) : Prop :=
  (ok = true → Comp l d v) ∧ (ok = false → (d, v) ∈ T' ∧ ∃ E, T' = T ++ E ∧ ∀ s ∈ E, Closed l T' s)
theorem HasOut.comp {l : List OpD} {d : Nat} {v : Int} {ok : Bool} {T' : List St} (h : HasOut l d v [] ok T') : ok = true ↔ Comp l d v := by
  refine ⟨h.1, fun c => ?_⟩
  cases hok : ok with
  | true => rfl
  | false =>
    obtain ⟨hm, E, hE, hc⟩ := h.2 hok
    rw [List.nil_append] at hE
    exact absurd hm (c.closed (by rw [← hE] at hc; exact hc))

def undK (d n : Nat) : Nat := (List.range n).countP fun i => !hasB d i
theorem undK_succ (d n : Nat) : undK d (n + 1) = undK d n + if hasB d n then 0 else 1 := by
  unfold undK
  rw [List.range_succ, List.countP_append]
  cases h : hasB d n <;> simp [h]
theorem undK_with (d i : Nat) (h : hasB d i = false) (n : Nat) : undK (withN d i) n + (if i < n then 1 else 0) = undK d n := by
  induction n with
  | zero => rfl
  | succ n ih =>
    rw [undK_succ, undK_succ, ← ih, hasB_with]
    by_cases hn : n = i
    · subst hn
      rw [h]
      simp
    · have : (n == i) = false := beq_eq_false_iff_ne.2 hn
      rw [this, Bool.false_or]
      by_cases hi : i < n
      · rw [if_pos hi, if_pos (by omega : i < n + 1)]; omega
      · rw [if_neg hi, if_neg (by omega : ¬ i < n + 1)]; rfl
def und (l : List OpD) (d : Nat) : Nat := undK d l.length
theorem next_mem {l : List OpD} {d i : Nat} (h : i ∈ nextL l d) : i < l.length ∧ hasB d i = false ∧ ∀ q, q < l.length → hasB d q = true ∨ aheadB (l.getD q op0) (l.getD i op0) = false := by
  unfold nextL nextK at h
  obtain ⟨h1, h2⟩ := List.mem_filter.1 h
  unfold mayB mayK at h2
  rw [Bool.and_eq_true, Bool.not_eq_true', List.all_eq_true] at h2
  refine ⟨List.mem_range.1 h1, h2.1, fun q hq => ?_⟩
  have := h2.2 q (List.mem_range.2 hq)
  rw [Bool.or_eq_true, Bool.not_eq_true'] at this
  exact this
theorem und_child {l : List OpD} {d i : Nat} (h : i ∈ nextL l d) : und l (withN d i) + 1 = und l d := by
  obtain ⟨h1, h2, _⟩ := next_mem h
  have := undK_with d i h2 l.length
  rw [if_pos h1] at this
  exact this
theorem next_und (l : List OpD) (d : Nat) : (nextL l d).length ≤ und l d := by
  unfold nextL nextK und undK
  rw [← List.countP_eq_length_filter]
  refine List.countP_mono_left (fun i _ h => ?_)
  unfold mayB mayK at h
  rw [Bool.and_eq_true] at h
  exact h.1
/-- How many states a search may note. -/
def capS : Nat → Nat
  | 0 => 1
  | u + 1 => 1 + (u + 1) * capS u

end Go.Proofs.YtpefcbmmbpcalaaDoor
