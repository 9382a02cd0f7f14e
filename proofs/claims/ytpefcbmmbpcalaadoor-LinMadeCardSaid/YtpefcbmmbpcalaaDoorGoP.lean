/-
  Whoever takes one that may be next, again and again: the plain law; two rows that grow at once.
-/
import Derived.Test.YtpefcbmmbpcalaaDoorRespP
import Derived.Test.YtpefcbmmbpcalaaDoorHasI
import Derived.Test.YtpefcbmmbpcalaaDoorAlive20
set_option linter.unusedVariables false
set_option linter.unusedSimpArgs false
namespace Go.Proofs.YtpefcbmmbpcalaaDoor
open Go.RowKit

/-- o was picked, one after another; d is the set of those. -/
structure Went (l : List OpD) (o : List Nat) (d : Nat) : Prop where
  lt : d < top64
  len : und l d + o.length = l.length
  has : ∀ x, hasB d x = true ↔ x ∈ o
  inl : ∀ x ∈ o, x < l.length
  row : ∀ i q, q < i → i < o.length → o.getD q 0 ≠ o.getD i 0 ∧ aheadB (l.getD (o.getD i 0) op0) (l.getD (o.getD q 0) op0) = false
  down : ∀ p k, k < l.length → hasB d p = true → hasB d k = false → aheadB (l.getD k op0) (l.getD p op0) = false
theorem hasB_zero' (k : Nat) : hasB 0 k = false := by unfold hasB; rw [Nat.zero_div]; rfl
theorem und_zero (l : List OpD) : und l 0 = l.length := by
  unfold und undK
  have : (List.range l.length).countP (fun i => !hasB 0 i) = (List.range l.length).length := List.countP_eq_length.2 (fun x _ => by rw [hasB_zero']; rfl)
  rw [this, List.length_range]
theorem Went.start (l : List OpD) : Went l [] 0 :=
  ⟨by rw [top64_is]; decide, by rw [und_zero]; rfl, fun x => by rw [hasB_zero']; simp, (fun x h => by cases h), (fun i q _ h => absurd h (Nat.not_lt_zero _)), (fun p k _ h => by rw [hasB_zero'] at h; cases h)⟩
theorem Went.pick {l : List OpD} {o : List Nat} {d i : Nat} (hl : l.length ≤ 64) (h : Went l o d) (hi : i ∈ nextL l d) : Went l (o ++ [i]) (withN d i) := by
  obtain ⟨hil, hid, hnx⟩ := next_mem hi
  refine ⟨withN_lt h.lt (by omega), ?_, fun x => ?_, fun x hx => ?_, fun j q hq hj => ?_, fun p k hk hp hkd => ?_⟩
  · have h1 := und_child hi
    have h2 := h.len
    rw [List.length_append]
    show und l (withN d i) + (o.length + 1) = _
    omega
  · rw [hasB_with, Bool.or_eq_true, beq_iff_eq, List.mem_append, List.mem_singleton, h.has x]
    exact Or.comm
  · rcases List.mem_append.1 hx with h1 | h1
    · exact h.inl x h1
    · rw [List.mem_singleton.1 h1]; exact hil
  · rw [List.length_append] at hj
    have hj' : j < o.length + 1 := hj
    have hqo : q < o.length := by omega
    have eq : (o ++ [i]).getD q 0 = o.getD q 0 := by rw [List.getD_eq_getElem?_getD, List.getD_eq_getElem?_getD, List.getElem?_append_left hqo]
    rw [eq]
    by_cases hjo : j < o.length
    · have ej : (o ++ [i]).getD j 0 = o.getD j 0 := by rw [List.getD_eq_getElem?_getD, List.getD_eq_getElem?_getD, List.getElem?_append_left hjo]
      rw [ej]
      exact h.row j q hq hjo
    · obtain rfl : j = o.length := by omega
      have ej : (o ++ [i]).getD o.length 0 = i := by rw [List.getD_eq_getElem?_getD, List.getElem?_append_right (Nat.le_refl _), Nat.sub_self]; rfl
      rw [ej]
      have hm : o.getD q 0 ∈ o := by rw [List.getD_eq_getElem?_getD, List.getElem?_eq_getElem hqo]; exact List.getElem_mem hqo
      have hb := (h.has _).2 hm
      refine ⟨fun e => ?_, h.down _ i hil hb hid⟩
      rw [e, hid] at hb; cases hb
  · rw [hasB_with, Bool.or_eq_false_iff] at hkd
    rw [hasB_with, Bool.or_eq_true, beq_iff_eq] at hp
    rcases hp with rfl | hp
    · rcases hnx k hk with h1 | h1
      · rw [hkd.2] at h1; cases h1
      · exact h1
    · exact h.down p k hk hp hkd.2
theorem frm_mono {l : List OpD} (hf : fineP l = true) {q : Nat} : ∀ {i}, q ≤ i → i < l.length → (l.getD q op0).frm ≤ (l.getD i op0).frm
  | 0, h, _ => by
    have e : q = 0 := by omega
    rw [e]; omega
  | i + 1, h, hi => by
    by_cases e : q = i + 1
    · subst e; omega
    · have ih := frm_mono hf (show q ≤ i by omega) (show i < l.length by omega)
      have := (okOp_parts (fineP_at hf (i + 1) hi)).1
      unfold fromJ at this
      rw [if_neg (by omega)] at this
      have this' : (l.getD i op0).frm ≤ (l.getD (i + 1) op0).frm := this
      omega
theorem late_not {l : List OpD} (hf : fineP l = true) {i q : Nat} (hq : q ≤ i) (hi : i < l.length) : aheadB (l.getD i op0) (l.getD q op0) = false := by
  cases h : aheadB (l.getD i op0) (l.getD q op0)
  · rfl
  · obtain ⟨h1, h2⟩ := ahead_iff.1 h
    have a := frm_mono hf hq hi
    have b := (okOp_parts (fineP_at hf i hi)).2.1
    omega
theorem first_undone (d : Nat) : ∀ n, undK d n ≠ 0 → ∃ x, x < n ∧ hasB d x = false ∧ ∀ q, q < x → hasB d q = true
  | 0, h => absurd rfl h
  | n + 1, h => by
    by_cases h0 : undK d n = 0
    · have hall : ∀ q, q < n → hasB d q = true := fun q hq => by
        unfold undK at h0
        rw [List.countP_eq_zero] at h0
        have := h0 q (List.mem_range.2 hq)
        cases hb : hasB d q
        · rw [hb] at this; exact absurd rfl this
        · rfl
      refine ⟨n, by omega, ?_, hall⟩
      cases hb : hasB d n
      · rfl
      · rw [undK_succ, h0, hb] at h; exact absurd rfl h
    · obtain ⟨x, h1, h2, h3⟩ := first_undone d n h0
      exact ⟨x, by omega, h2, h3⟩
theorem Went.more {l : List OpD} {o : List Nat} {d : Nat} (hf : fineP l = true) (h : Went l o d) (hlt : o.length < l.length) : 0 < (nextL l d).length := by
  have hu : und l d ≠ 0 := by have := h.len; omega
  obtain ⟨x, h1, h2, h3⟩ := first_undone d l.length hu
  have hm : x ∈ nextL l d := by
    unfold nextL nextK
    refine List.mem_filter.2 ⟨List.mem_range.2 h1, ?_⟩
    unfold mayB mayK
    rw [h2, Bool.not_false, Bool.true_and, List.all_eq_true]
    intro q hq
    by_cases hqx : q < x
    · rw [h3 q hqx]; rfl
    · rw [late_not hf (show x ≤ q by omega) (List.mem_range.1 hq)]; simp
  exact List.length_pos_of_mem hm
theorem Went.all {l : List OpD} {o : List Nat} {d : Nat} (h : Went l o d) (hlt : o.length = l.length) {x : Nat} (hx : x < l.length) : hasB d x = true := by
  have hu : und l d = 0 := by have := h.len; omega
  unfold und undK at hu
  rw [List.countP_eq_zero] at hu
  have := hu x (List.mem_range.2 hx)
  cases hb : hasB d x
  · rw [hb] at this; exact absurd rfl this
  · rfl
theorem Went.fin {l : List OpD} {o : List Nat} {d : Nat} (h : Went l o d) (hlt : o.length = l.length) : nextL l d = [] := by
  unfold nextL nextK
  rw [List.filter_eq_nil_iff]
  intro x hx
  unfold mayB mayK
  rw [h.all hlt (List.mem_range.1 hx)]; simp
theorem resp_of {l : List OpD} {o : List Nat} (h1 : ∀ x ∈ o, x < l.length) (h2 : ∀ i q, q < i → i < o.length → o.getD q 0 ≠ o.getD i 0 ∧ aheadB (l.getD (o.getD i 0) op0) (l.getD (o.getD q 0) op0) = false) (h3 : ∀ x, x < l.length → x ∈ o) : respP l (iL o) = true := by
  unfold respP
  rw [Bool.and_eq_true, Bool.and_eq_true]
  refine ⟨?_, ?_, ?_⟩
  · unfold inAll
    rw [List.all_eq_true]
    intro i hi
    have hi' := List.mem_range.1 hi
    rw [iL_len] at hi'
    rw [iL_get]
    have hm : o.getD i 0 ∈ o := by rw [List.getD_eq_getElem?_getD, List.getElem?_eq_getElem hi']; exact List.getElem_mem hi'
    have := h1 _ hm
    unfold inR
    rw [decide_eq_true (by omega), decide_eq_true (by omega)]; rfl
  · unfold rowAll
    rw [List.all_eq_true]
    intro i hi
    have hi' := List.mem_range.1 hi
    rw [iL_len] at hi'
    unfold rowB rowK
    rw [List.all_eq_true]
    intro q hq
    obtain ⟨a, b⟩ := h2 i q (List.mem_range.1 hq) hi'
    unfold pairB
    rw [iL_get, iL_get]
    show (!(((o.getD q 0 : Nat) : Int) == ((o.getD i 0 : Nat) : Int)) && !aheadB (l.getD (o.getD i 0) op0) (l.getD (o.getD q 0) op0)) = true
    rw [b, beq_eq_false_iff_ne.2 (by omega)]; rfl
  · unfold allB
    rw [List.all_eq_true]
    intro n hn
    unfold thereB thereK
    rw [Bool.or_eq_true, List.any_eq_true]
    right
    obtain ⟨i, hi, he⟩ := List.getElem_of_mem (h3 n (List.mem_range.1 hn))
    refine ⟨i, List.mem_range.2 (by rw [iL_len]; exact hi), ?_⟩
    rw [iL_get, List.getD_eq_getElem?_getD, List.getElem?_eq_getElem hi, he, beq_iff_eq]; rfl
theorem Went.resp {l : List OpD} {o : List Nat} {d : Nat} (h : Went l o d) (hlt : o.length = l.length) : respP l (iL o) = true :=
  resp_of h.inl h.row (fun x hx => (h.has x).1 (h.all hlt hx))
theorem first_resp {l : List OpD} (hf : fineP l = true) : respP l (iL (List.range l.length)) = true := by
  refine resp_of (fun x hx => List.mem_range.1 hx) (fun i q hq hi => ?_) (fun x hx => List.mem_range.2 hx)
  rw [List.length_range] at hi
  have e : ∀ j, j < l.length → (List.range l.length).getD j 0 = j := fun j hj => by rw [List.getD_eq_getElem?_getD, List.getElem?_range hj]; rfl
  rw [e q (by omega), e i hi]
  exact ⟨by omega, late_not hf (by omega) hi⟩

/-- Two rows of the call's own, each in a block of its own. -/
structure TwoR (w wr : World) (v1 v2 : Value) (L1 L2 : List Nat) : Prop where
  a : OwnN wr w.heap.size v1 L1
  b : OwnN wr w.heap.size v2 L2
  ap : v1.ownBlock = none ∨ v2.ownBlock = none ∨ v1.ownBlock ≠ v2.ownBlock
  up : Up w wr
theorem TwoR.swap {w wr : World} {v1 v2 : Value} {L1 L2 : List Nat} (h : TwoR w wr v1 v2 L1 L2) : TwoR w wr v2 v1 L2 L1 :=
  ⟨h.b, h.a, h.ap.elim (fun e => .inr (.inl e)) (fun e => e.elim .inl (fun e => .inr (.inr (Ne.symm e)))), h.up⟩
theorem TwoR.more {w wr w' : World} {v1 v2 : Value} {L1 L2 : List Nat} (h : TwoR w wr v1 v2 L1 L2) (u : Up wr w') : TwoR w w' v1 v2 L1 L2 := ⟨own_up4 h.a u, own_up4 h.b u, h.ap, h.up.trans u⟩
theorem TwoR.push {w wr w' : World} {v1 v2 v' : Value} {L1 L2 L' : List Nat} (h : TwoR w wr v1 v2 L1 L2) (ho : OwnN w' w.heap.size v' L') (hg : wr.grownBy w' v2.ownBlock) (hm : Moved wr v2.ownBlock v'.ownBlock) : TwoR w w' v1 v' L1 L' := by
  refine ⟨?_, ho, ?_, ?_⟩
  · rcases h.ap with e | e | e
    · exact World.ownsRow.kept h.a hg (.inl e)
    · cases h1 : v1.ownBlock with
      | none => exact World.ownsRow.kept h.a hg (.inl h1)
      | some g => exact World.ownsRow.kept h.a hg (.inr (by rw [e, h1]; simp))
    · exact World.ownsRow.kept h.a hg (.inr e)
  · rcases hm with e | e | ⟨g, e, hgg⟩
    · rw [e]; exact h.ap
    · exact .inr (.inl e)
    · cases h1 : v1.ownBlock with
      | none => exact .inl rfl
      | some g1 =>
        have := (World.ownsRow.lt h.a g1 h1).2
        refine .inr (.inr ?_)
        rw [e]
        intro e2
        injection e2 with e2
        omega
  · exact Below.trans h.up (grownBy_below hg h.up.size (fun k hk => (World.ownsRow.lt h.b k hk).1))
theorem TwoR.start (w : World) : TwoR w w (.slice none 0 0) (.slice none 0 0) [] [] :=
  ⟨⟨rfl, .inl ⟨rfl, rfl⟩⟩, ⟨rfl, .inl ⟨rfl, rfl⟩⟩, .inl rfl, Up.refl w⟩
theorem n_row2 {w : World} {B : Nat} {v : Value} {L : List Nat} (h : OwnN w B v L) : ∃ A cc, v = .slice A (iL L).length cc ∧ Row w A (iL L).length (IVal (iL L)) ∧ (iL L).length ≤ cc ∧ cc ≤ 9223372036854775807 ∧ (A = none → cc = 0) := by
  obtain ⟨A, cc, hv, hr⟩ := n_row h
  refine ⟨A, cc, hv, hr, ?_⟩
  rcases h.2 with ⟨h1, hn⟩ | ⟨g, cap, cur, h1, hg, hh, hr1, hr2, _⟩
  · rw [hv] at h1
    injection h1 with e1 e2 e3
    subst e3
    exact ⟨by rw [iL_len]; omega, by decide, fun _ => rfl⟩
  · rw [hv] at h1
    injection h1 with e1 e2 e3
    subst e3
    refine ⟨by rw [iL_len]; exact hr1, hr2, fun e => ?_⟩
    rw [e1] at e; cases e
theorem n_cell {w : World} {B : Nat} {A : Option Addr} {cc : Nat} {L : List Nat} {n : Nat} (h : OwnN w B (.slice A n cc) L) {j : Nat} (hj : j < L.length) : ∃ g, A = some ⟨g, 0, none⟩ ∧ w.cell? ⟨g, j, none⟩ = some (.int .i64 ((L.getD j 0 : Nat) : Int)) := by
  obtain ⟨A', c', e, hc⟩ := n_cells h
  injection e with e1 e2 e3
  rw [e1]
  exact hc j hj

/-- A later row stays while an earlier one grows. -/
theorem later_kept {w2 w3 w4 : World} {B : Nat} {v va : Value} {L o : List Nat} (h : OwnN w3 w2.heap.size v L) (ha : OwnN w2 B va o) (hg : w3.grownBy w4 va.ownBlock) : OwnN w4 w2.heap.size v L := by
  cases hv : v.ownBlock with
  | none => exact World.ownsRow.kept h hg (.inl hv)
  | some g =>
    refine World.ownsRow.kept h hg (.inr (fun e => ?_))
    have h1 := (World.ownsRow.lt h g hv).1
    have h2 := (World.ownsRow.lt ha g (e.symm.trans hv)).2
    omega

end Go.Proofs.YtpefcbmmbpcalaaDoor
