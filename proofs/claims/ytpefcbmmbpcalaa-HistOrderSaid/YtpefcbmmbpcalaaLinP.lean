/-
  A linear history of one writer is regular; a regular one is safe. No program in sight.
-/
import Derived.Test.YtpefcbmmbpcalaaHasP
import Derived.Test.YtpefcbmmbpcalaaLooD
set_option linter.unusedVariables false
set_option linter.unusedSimpArgs false
namespace Go.Proofs.Ytpefcbmmbpcalaa
open Go.RowKit

theorem ahead_of {a b : OpD} : aheadB a b = true ↔ a.to ≠ -1 ∧ a.to < b.frm := by
  unfold aheadB
  rw [Bool.and_eq_true, bne_iff_ne, decide_eq_true_iff]
theorem lastOf_is {l : List OpD} {t : Int} {q : OpD} : ∀ {j : Nat}, lastOf l t j = some q → ∃ i, i < j ∧ q = l.getD i op0 ∧ ∀ k, i < k → k < j → (l.getD k op0).thr ≠ t
  | 0, h => by cases h
  | j + 1, h => by
    unfold lastOf at h
    by_cases ht : (l.getD j op0).thr = t
    · rw [if_pos ht] at h
      injection h with h
      exact ⟨j, by omega, h.symm, fun k h1 h2 => by omega⟩
    · rw [if_neg ht] at h
      obtain ⟨i, hi, hq, hk⟩ := lastOf_is h
      refine ⟨i, by omega, hq, fun k h1 h2 => ?_⟩
      by_cases hkj : k = j
      · subst hkj; exact ht
      · exact hk k h1 (by omega)
theorem lastOf_none {l : List OpD} {t : Int} : ∀ {j : Nat}, lastOf l t j = none → ∀ k, k < j → (l.getD k op0).thr ≠ t
  | 0, _, k, hk => by omega
  | j + 1, h, k, hk => by
    unfold lastOf at h
    by_cases ht : (l.getD j op0).thr = t
    · rw [if_pos ht] at h; cases h
    · rw [if_neg ht] at h
      by_cases hkj : k = j
      · subst hkj; exact ht
      · exact lastOf_none h k (by omega)
/-- Two operations of one thread: the earlier one is ahead. -/
theorem thread_ahead {l : List OpD} (hf : fineP l = true) : ∀ (j : Nat), j < l.length → ∀ i, i < j → (l.getD i op0).thr = (l.getD j op0).thr → aheadB (l.getD i op0) (l.getD j op0) = true := by
  intro j
  induction j using Nat.strongRecOn with
  | _ j ih =>
  intro hj i hi ht
  obtain ⟨_, hto, _, hok⟩ := okOp_parts (fineP_at hf j hj)
  cases hlo : lastOf l (l.getD j op0).thr j with
  | none => exact absurd ht (lastOf_none hlo i hi)
  | some q =>
    rw [hlo] at hok
    have hq : aheadB q (l.getD j op0) = true := hok
    obtain ⟨i', hi', rfl, hk⟩ := lastOf_is hlo
    have hii : i ≤ i' := Nat.le_of_not_lt (fun h => hk i h hi ht)
    by_cases he : i = i'
    · subst he; exact hq
    · have ht' : (l.getD i op0).thr = (l.getD i' op0).thr := by
        rw [ht]
        have : ∃ k, lastOf l (l.getD j op0).thr j = some (l.getD i' op0) := ⟨0, hlo⟩
        exact (lastOf_thr hlo).symm
      have h1 := ih i' hi' (by omega) i (by omega) ht'
      obtain ⟨_, hto', _, _⟩ := okOp_parts (fineP_at hf i' (by omega))
      rw [ahead_of] at h1 hq ⊢
      rcases hto' with h | h
      · exact absurd h hq.1
      · exact ⟨h1.1, by omega⟩
where
  lastOf_thr {l : List OpD} {t : Int} {q : OpD} : ∀ {j : Nat}, lastOf l t j = some q → q.thr = t
  | 0, h => by cases h
  | j + 1, h => by
    unfold lastOf at h
    by_cases ht : (l.getD j op0).thr = t
    · rw [if_pos ht] at h
      injection h with h
      rw [← h]; exact ht
    · rw [if_neg ht] at h
      exact lastOf_thr h

theorem lastA_none {ws : List OpD} {v : Int} {r : OpD} (h : ∀ o ∈ ws, aheadB o r = false) : lastA ws v r = v := by
  unfold lastA
  induction ws generalizing v with
  | nil => rfl
  | cons a ws ih =>
    rw [List.foldl_cons, h a (List.mem_cons_self ..)]
    exact ih (fun o ho => h o (List.mem_cons_of_mem _ ho))
theorem lastA_split {xs ys : List OpD} {p : OpD} {v : Int} {r : OpD} (hp : aheadB p r = true) (h : ∀ o ∈ ys, aheadB o r = false) : lastA (xs ++ p :: ys) v r = p.val := by
  have e : lastA (xs ++ p :: ys) v r = lastA ys p.val r := by
    unfold lastA
    rw [List.foldl_append, List.foldl_cons, hp]; rfl
  rw [e, lastA_none h]
theorem only_mem {l : List OpD} {o : OpD} (h : o ∈ onlyL l true) : ∃ j, j < l.length ∧ o = l.getD j op0 ∧ o.wr = true := by
  unfold onlyL at h
  obtain ⟨h1, h2⟩ := List.mem_filter.1 h
  obtain ⟨j, hj, rfl⟩ := List.getElem_of_mem h1
  exact ⟨j, hj, by rw [List.getD_eq_getElem?_getD, List.getElem?_eq_getElem hj]; rfl, by simpa using h2⟩
theorem only_split {l : List OpD} {i : Nat} (hi : i < l.length) (hw : (l.getD i op0).wr = true) : ∃ xs ys, onlyL l true = xs ++ l.getD i op0 :: ys ∧ ∀ o ∈ ys, ∃ j, i < j ∧ j < l.length ∧ o = l.getD j op0 ∧ o.wr = true := by
  have e : l = l.take i ++ l.getD i op0 :: l.drop (i + 1) := by
    rw [List.getD_eq_getElem?_getD, List.getElem?_eq_getElem hi]
    simp
  refine ⟨onlyL (l.take i) true, onlyL (l.drop (i + 1)) true, ?_, fun o ho => ?_⟩
  · conv => lhs; rw [e]
    unfold onlyL
    rw [List.filter_append, List.filter_cons, hw]; rfl
  · obtain ⟨j, hj, rfl, hw2⟩ := only_mem ho
    rw [List.length_drop] at hj
    refine ⟨i + 1 + j, by omega, by omega, ?_, hw2⟩
    rw [List.getD_eq_getElem?_getD, List.getD_eq_getElem?_getD, List.getElem?_drop]
theorem same_thr {l : List OpD} (h : sameT (onlyL l true) = true) {i j : Nat} (hi : i < l.length) (hj : j < l.length) (hwi : (l.getD i op0).wr = true) (hwj : (l.getD j op0).wr = true) : (l.getD i op0).thr = (l.getD j op0).thr := by
  unfold sameT at h
  rw [List.all_eq_true] at h
  have mem : ∀ k, k < l.length → (l.getD k op0).wr = true → l.getD k op0 ∈ onlyL l true := fun k hk hw => by
    unfold onlyL
    refine List.mem_filter.2 ⟨?_, by rw [hw]; rfl⟩
    rw [List.getD_eq_getElem?_getD, List.getElem?_eq_getElem hk]
    exact List.getElem_mem hk
  have h1 := h _ (mem i hi hwi)
  have h2 := h _ (mem j hj hwj)
  rw [beq_iff_eq] at h1 h2
  rw [h1, h2]

/-- What holds along an order: of those done, of the value. -/
structure LInv (l : List OpD) (v : Int) (d : Nat) (x : Int) : Prop where
  down : ∀ p k, p < l.length → k < l.length → hasB d p = true → hasB d k = false → aheadB (l.getD k op0) (l.getD p op0) = false
  last : (x = v ∧ ∀ p, p < l.length → (l.getD p op0).wr = true → hasB d p = false) ∨
    ∃ p, p < l.length ∧ hasB d p = true ∧ (l.getD p op0).wr = true ∧ x = (l.getD p op0).val ∧ ∀ q, q < l.length → q ≠ p → hasB d q = true → (l.getD q op0).wr = true → aheadB (l.getD p op0) (l.getD q op0) = false
  reads : ∀ p, p < l.length → hasB d p = true → (l.getD p op0).wr = false → (l.getD p op0).to ≠ -1 → regB (onlyL l true) v (l.getD p op0) = true

theorem reg_of {l : List OpD} {v x : Int} {d i : Nat} (hf : fineP l = true) (hs : sameT (onlyL l true) = true) (h : LInv l v d x) (hi : i ∈ nextL l d) (hw : (l.getD i op0).wr = false) (hv : (l.getD i op0).val = x) : regB (onlyL l true) v (l.getD i op0) = true := by
  obtain ⟨hil, hid, hnx⟩ := next_mem hi
  unfold regB seenL
  rw [List.any_cons, Bool.or_eq_true, beq_iff_eq, hv]
  rcases h.last with ⟨rfl, hno⟩ | ⟨p, hp, hpd, hpw, rfl, hpl⟩
  · left
    refine lastA_none (fun o ho => ?_)
    obtain ⟨j, hj, rfl, hjw⟩ := only_mem ho
    rcases hnx j hj with h1 | h1
    · rw [hno j hj hjw] at h1; cases h1
    · exact h1
  · obtain ⟨xs, ys, he, hys⟩ := only_split hp hpw
    cases hap : aheadB (l.getD p op0) (l.getD i op0) with
    | true =>
      left
      rw [he]
      refine lastA_split hap (fun o ho => ?_)
      obtain ⟨j, hpj, hj, rfl, hjw⟩ := hys o ho
      rcases hnx j hj with h1 | h1
      · have h2 := hpl j hj (by omega) h1 hjw
        rw [thread_ahead hf j hj p hpj (same_thr hs hp hj hpw hjw)] at h2
        cases h2
      · exact h1
    | false =>
      right
      rw [List.any_eq_true]
      refine ⟨(l.getD p op0).val, ?_, by simp⟩
      unfold bothV
      refine List.mem_map.2 ⟨l.getD p op0, List.mem_filter.2 ⟨by rw [he]; simp, ?_⟩, rfl⟩
      unfold bothB
      rw [hap, h.down p i hp hil hpd hid]; rfl

theorem LInv.pick {l : List OpD} {v x : Int} {d i : Nat} (hf : fineP l = true) (hs : sameT (onlyL l true) = true) (h : LInv l v d x) (hi : i ∈ nextL l d) (ht : tellsB (l.getD i op0) x = true) : LInv l v (withN d i) (afterV (l.getD i op0) x) := by
  obtain ⟨hil, hid, hnx⟩ := next_mem hi
  refine ⟨fun p k hp hk hpd hkd => ?_, ?_, fun p hp hpd hpw hpt => ?_⟩
  · rw [hasB_with, Bool.or_eq_true, beq_iff_eq] at hpd
    rw [hasB_with, Bool.or_eq_false_iff] at hkd
    rcases hpd with rfl | hpd
    · rcases hnx k hk with h1 | h1
      · rw [hkd.2] at h1; cases h1
      · exact h1
    · exact h.down p k hp hk hpd hkd.2
  · unfold afterV
    cases hw : (l.getD i op0).wr with
    | true =>
      rw [if_pos rfl]
      refine .inr ⟨i, hil, by rw [hasB_with]; simp, hw, rfl, fun q hq hne hqd hqw => ?_⟩
      rw [hasB_with, Bool.or_eq_true, beq_iff_eq] at hqd
      exact h.down q i hq hil (hqd.resolve_left hne) hid
    | false =>
      rw [if_neg (by simp)]
      have hne : ∀ q, (l.getD q op0).wr = true → q ≠ i := fun q hq e => by rw [e, hw] at hq; cases hq
      rcases h.last with ⟨rfl, hno⟩ | ⟨p, hp, hpd, hpw, rfl, hpl⟩
      · refine .inl ⟨rfl, fun p hp hpw => ?_⟩
        rw [hasB_with, beq_eq_false_iff_ne.2 (hne p hpw), Bool.false_or]
        exact hno p hp hpw
      · refine .inr ⟨p, hp, by rw [hasB_with, hpd, Bool.or_true], hpw, rfl, fun q hq hqp hqd hqw => ?_⟩
        rw [hasB_with, beq_eq_false_iff_ne.2 (hne q hqw), Bool.false_or] at hqd
        exact hpl q hq hqp hqd hqw
  · rw [hasB_with, Bool.or_eq_true, beq_iff_eq] at hpd
    rcases hpd with rfl | hpd
    · refine reg_of hf hs h hi hpw ?_
      unfold tellsB at ht
      rw [hpw, Bool.false_or, Bool.or_eq_true, beq_iff_eq, beq_iff_eq] at ht
      exact ht.resolve_left hpt
    · exact h.reads p hp hpd hpw hpt
theorem LInv.comp {l : List OpD} {v : Int} (hf : fineP l = true) (hs : sameT (onlyL l true) = true) {d : Nat} {x : Int} (c : Comp l d x) (h : LInv l v d x) : regularP l v = true := by
  induction c with
  | all d x hl =>
    refine eachB_all (fun j hj => ?_)
    unfold leftB leftK at hl
    rw [List.any_eq_false] at hl
    have h1 := hl j (List.mem_range.2 hj)
    cases hw : (l.getD j op0).wr with
    | true => rfl
    | false =>
      by_cases ht : (l.getD j op0).to = -1
      · rw [ht]; rfl
      · have h2 : hasB d j = true := by
          cases hb : hasB d j with
          | true => rfl
          | false =>
            rw [hb] at h1
            exact absurd (by rw [bne_iff_ne.2 ht]; rfl) h1
        rw [h.reads j hj h2 hw ht]; simp
  | pick d x i hi ht _ ih => exact ih (h.pick hf hs hi ht)
theorem hasB_zero (k : Nat) : hasB 0 k = false := by unfold hasB; rw [Nat.zero_div]; rfl
theorem lin_regular {l : List OpD} {v : Int} (hf : faultP l = 0) (c : Comp l 0 v) : regularP l v = true := by
  unfold faultP at hf
  cases h1 : fineP l with
  | false => rw [h1] at hf; cases hf
  | true =>
    cases h2 : sameT (onlyL l true) with
    | false => rw [h1, h2] at hf; cases hf
    | true =>
      exact LInv.comp h1 h2 c ⟨(fun p k _ _ hp => by rw [hasB_zero] at hp; cases hp), .inl ⟨rfl, fun p _ _ => hasB_zero p⟩, (fun p _ hp => by rw [hasB_zero] at hp; cases hp)⟩
theorem regular_safe {l : List OpD} {v : Int} (hl : ∀ o ∈ l, 0 ≤ o.val ∧ o.val ≤ 300) (h : regularP l v = true) : safeP l v 300 = true := by
  unfold regularP eachB at h
  unfold safeP eachB
  rw [List.all_eq_true] at h ⊢
  intro r hr
  have h1 := h r hr
  rw [Bool.or_eq_true] at h1 ⊢
  refine h1.imp id (fun h2 => ?_)
  unfold safeB
  obtain ⟨a, b⟩ := hl r hr
  by_cases hn : (seenL (onlyL l true) v r).length = 1
  · rw [if_pos hn]
    unfold regB seenL at h2
    unfold seenL at hn
    rw [List.length_cons] at hn
    have : bothV (onlyL l true) r = [] := List.eq_nil_of_length_eq_zero (by omega)
    rw [this, List.any_cons, List.any_nil, Bool.or_false, beq_iff_eq] at h2
    rw [beq_iff_eq]
    exact h2.symm
  · rw [if_neg hn, decide_eq_true a, decide_eq_true b]; rfl

end Go.Proofs.Ytpefcbmmbpcalaa
