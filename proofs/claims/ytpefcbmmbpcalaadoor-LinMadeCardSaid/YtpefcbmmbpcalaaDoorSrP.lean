/-
  The search that skips pending reads and takes a read that tells at once: the plain law.
-/
import Derived.Test.YtpefcbmmbpcalaaDoorHasP
import Derived.Test.YtpefcbmmbpcalaaDoorGoP
set_option linter.unusedVariables false
set_option linter.unusedSimpArgs false
namespace Go.Proofs.YtpefcbmmbpcalaaDoor
open Go.RowKit

/-- Is one taken by the program's search? -/
def goB (o : OpD) (v : Int) : Bool := o.wr || (o.to != -1 && o.val == v)
theorem goB_tells {o : OpD} {v : Int} (h : goB o v = true) : tellsB o v = true := by
  unfold goB at h
  unfold tellsB
  rw [Bool.or_eq_true, Bool.and_eq_true] at h
  rcases h with h | h
  · rw [h]; rfl
  · rw [h.2]; simp
theorem mayB_iff {l : List OpD} {d i : Nat} : i ∈ nextL l d ↔ i < l.length ∧ hasB d i = false ∧ ∀ q, q < l.length → hasB d q = true ∨ aheadB (l.getD q op0) (l.getD i op0) = false := by
  refine ⟨next_mem, fun ⟨h1, h2, h3⟩ => ?_⟩
  unfold nextL nextK
  refine List.mem_filter.2 ⟨List.mem_range.2 h1, ?_⟩
  unfold mayB mayK
  rw [h2, Bool.not_false, Bool.true_and, List.all_eq_true]
  intro q hq
  rcases h3 q (List.mem_range.1 hq) with h | h
  · rw [h]; rfl
  · rw [h]; simp
theorem withN_comm (d i j : Nat) : withN (withN d i) j = withN (withN d j) i := by
  apply Nat.eq_of_testBit_eq
  intro k
  rw [← hasB_bit, ← hasB_bit, hasB_with, hasB_with, hasB_with, hasB_with]
  cases (k == i) <;> cases (k == j) <;> rfl
theorem withN_twice (d i : Nat) : withN (withN d i) i = withN d i := by
  apply Nat.eq_of_testBit_eq
  intro k
  rw [← hasB_bit, ← hasB_bit, hasB_with, hasB_with]
  cases (k == i) <;> rfl
theorem left_iff {l : List OpD} {d : Nat} : leftB l d = false ↔ ∀ i, i < l.length → (l.getD i op0).to = -1 ∨ hasB d i = true := by
  unfold leftB leftK
  rw [List.any_eq_false]
  constructor
  · intro h i hi
    have := h i (List.mem_range.2 hi)
    by_cases ht : (l.getD i op0).to = -1
    · exact .inl ht
    · right
      cases hb : hasB d i
      · rw [hb, (by rw [bne_iff_ne]; exact ht : ((l.getD i op0).to != -1) = true)] at this
        exact absurd rfl this
      · rfl
  · intro h i hi
    rcases h i (List.mem_range.1 hi) with h1 | h1
    · rw [h1]; simp
    · rw [h1]; simp
/-- An order with no pending read in it. -/
inductive CompW (l : List OpD) : Nat → Int → Prop
  | all (d : Nat) (v : Int) : leftB l d = false → CompW l d v
  | pick (d : Nat) (v : Int) (i : Nat) : i ∈ nextL l d → goB (l.getD i op0) v = true → CompW l (withN d i) (afterV (l.getD i op0) v) → CompW l d v
def penR (o : OpD) : Prop := o.wr = false ∧ o.to = -1
/-- Alike but for pending reads. -/
def Like (l : List OpD) (d d2 : Nat) : Prop := ∀ k, k < l.length → hasB d k = hasB d2 k ∨ penR (l.getD k op0)
theorem Like.with {l : List OpD} {d d2 : Nat} (h : Like l d d2) (i : Nat) : Like l (withN d i) (withN d2 i) := fun k hk => by
  rcases h k hk with e | e
  · left; rw [hasB_with, hasB_with, e]
  · exact .inr e
theorem goB_not_pen {o : OpD} {v : Int} (h : goB o v = true) : ¬ penR o := fun ⟨h1, h2⟩ => by
  unfold goB at h
  rw [h1, h2] at h
  simp at h
theorem pen_not_ahead {o p : OpD} (h : penR o) : aheadB o p = false := by
  unfold aheadB; rw [h.2]; rfl
theorem Like.next {l : List OpD} {d d2 i : Nat} (h : Like l d d2) (hp : ¬ penR (l.getD i op0)) (hi : i ∈ nextL l d) : i ∈ nextL l d2 := by
  obtain ⟨h1, h2, h3⟩ := mayB_iff.1 hi
  refine mayB_iff.2 ⟨h1, ?_, fun q hq => ?_⟩
  · rcases h i h1 with e | e
    · rw [← e]; exact h2
    · exact absurd e hp
  · rcases h q hq with e | e
    · rw [← e]; exact h3 q hq
    · exact .inr (pen_not_ahead e)
theorem CompW.like {l : List OpD} {d : Nat} {v : Int} (c : CompW l d v) : ∀ d2, Like l d d2 → CompW l d2 v := by
  induction c with
  | all d v h =>
    intro d2 hk
    refine .all _ _ (left_iff.2 fun i hi => ?_)
    rcases left_iff.1 h i hi with e | e
    · exact .inl e
    · rcases hk i hi with e2 | e2
      · right; rw [← e2]; exact e
      · exact .inl e2.2
  | pick d v i hi hg _ ih =>
    intro d2 hk
    exact .pick d2 v i (hk.next (goB_not_pen hg) hi) hg (ih _ (hk.with i))
theorem Comp.w {l : List OpD} {d : Nat} {v : Int} (c : Comp l d v) : CompW l d v := by
  induction c with
  | all d v h => exact .all d v h
  | pick d v i hi ht _ ih =>
    by_cases hp : penR (l.getD i op0)
    · have e : afterV (l.getD i op0) v = v := by unfold afterV; rw [hp.1]; rfl
      rw [e] at ih
      refine ih.like d (fun k hk => ?_)
      by_cases hki : k = i
      · subst hki; exact .inr hp
      · left; rw [hasB_with, beq_eq_false_iff_ne.2 hki]; rfl
    · refine .pick d v i hi ?_ ih
      unfold tellsB at ht
      unfold goB
      cases hw : (l.getD i op0).wr
      · rw [hw, Bool.false_or, Bool.or_eq_true] at ht
        rw [Bool.false_or, Bool.and_eq_true]
        have hto : (l.getD i op0).to ≠ -1 := fun e => hp ⟨hw, e⟩
        rcases ht with e | e
        · exact absurd (by simpa using e) hto
        · exact ⟨by rw [bne_iff_ne]; exact hto, e⟩
      · rfl
/-- A read that is done earlier hinders nothing. -/
theorem CompW.read {l : List OpD} {d : Nat} {v : Int} (c : CompW l d v) (r : Nat) (hr : (l.getD r op0).wr = false) : CompW l (withN d r) v := by
  induction c with
  | all d v h =>
    refine .all _ _ (left_iff.2 fun i hi => ?_)
    rcases left_iff.1 h i hi with e | e
    · exact .inl e
    · right; rw [hasB_with, e, Bool.or_true]
  | pick d v i hi hg c ih =>
    by_cases e : i = r
    · subst e
      have ea : afterV (l.getD i op0) v = v := by unfold afterV; rw [hr]; rfl
      rw [ea] at c
      exact c
    · rw [withN_comm] at ih
      refine .pick _ _ i ?_ hg ih
      obtain ⟨h1, h2, h3⟩ := mayB_iff.1 hi
      refine mayB_iff.2 ⟨h1, by rw [hasB_with, h2, beq_eq_false_iff_ne.2 e]; rfl, fun q hq => ?_⟩
      rcases h3 q hq with e2 | e2
      · left; rw [hasB_with, e2, Bool.or_true]
      · exact .inr e2
/-- A state that the search has left behind: all that may be taken was tried, or a read that may be taken. -/
def ClosedP (l : List OpD) (T : List St) (s : St) : Prop := leftB l s.1 = true ∧
  ((∀ i ∈ nextL l s.1, goB (l.getD i op0) s.2 = true → child l s.1 s.2 i ∈ T) ∨ ∃ i ∈ nextL l s.1, (l.getD i op0).wr = false ∧ child l s.1 s.2 i ∈ T)
theorem ClosedP.more {l : List OpD} {T : List St} {s : St} (h : ClosedP l T s) (E : List St) : ClosedP l (T ++ E) s :=
  ⟨h.1, h.2.imp (fun h2 i hi hg => List.mem_append_left _ (h2 i hi hg)) (fun ⟨i, a, b, c⟩ => ⟨i, a, b, List.mem_append_left _ c⟩)⟩
theorem closedP_none {l : List OpD} {T : List St} (h : ∀ s ∈ T, ClosedP l T s) : ∀ (n d : Nat) (v : Int), und l d ≤ n → CompW l d v → (d, v) ∉ T := by
  intro n
  induction n with
  | zero =>
    intro d v hn c hm
    have h1 := (h _ hm).1
    simp only at h1
    cases c with
    | all _ _ h2 => rw [h2] at h1; cases h1
    | pick _ _ i hi _ _ => have := und_child hi; omega
  | succ n ih =>
    intro d v hn c hm
    obtain ⟨h1, h2⟩ := h _ hm
    simp only at h1 h2
    rcases h2 with h2 | ⟨i, hi, hw, hc⟩
    · cases c with
      | all _ _ h3 => rw [h3] at h1; cases h1
      | pick _ _ i hi hg c => exact ih _ _ (by have := und_child hi; omega) c (h2 i hi hg)
    · have e : afterV (l.getD i op0) v = v := by unfold afterV; rw [hw]; rfl
      unfold child at hc
      simp only [e] at hc
      exact ih _ _ (by have := und_child hi; omega) (c.read i hw) hc
/-- The value behind an order, if each tells what is there. -/
def runF (l : List OpD) : Int → List Nat → Option Int
  | v, [] => some v
  | v, i :: r => if tellsB (l.getD i op0) v then runF l (afterV (l.getD i op0) v) r else none
theorem runF_snoc (l : List OpD) (i : Nat) : ∀ (F : List Nat) (v : Int) {x : Int}, runF l v F = some x → tellsB (l.getD i op0) x = true → runF l v (F ++ [i]) = some (afterV (l.getD i op0) x)
  | [], v, x, h, ht => by
    unfold runF at h
    obtain rfl := Option.some.inj h
    show (if tellsB (l.getD i op0) v = true then runF l (afterV (l.getD i op0) v) [] else none) = _
    rw [if_pos ht]; rfl
  | a :: F, v, x, h, ht => by
    unfold runF at h
    show (if tellsB (l.getD a op0) v = true then runF l (afterV (l.getD a op0) v) (F ++ [i]) else none) = _
    by_cases ha : tellsB (l.getD a op0) v = true
    · rw [if_pos ha] at h ⊢
      exact runF_snoc l i F _ h ht
    · rw [if_neg ha] at h; cases h
/-- Does an order tell a history right? -/
def rightP (l : List OpD) (v : Int) (o : List Int) : Bool := respP l o && (runF l v (o.map Int.toNat)).isSome
theorem iL_nat (F : List Nat) : (iL F).map Int.toNat = F := by
  unfold iL
  rw [List.map_map]
  exact (List.map_congr_left (fun x _ => rfl)).trans (List.map_id F)
/-- What the program's search tells: F is what it found. -/
structure Path (l : List OpD) (first : Int) (F : List Nat) (d : Nat) (v : Int) : Prop where
  went : Went l F d
  runs : runF l first F = some v
theorem resp_of2 {l : List OpD} {o : List Nat} (h1 : ∀ x ∈ o, x < l.length) (h2 : ∀ i q, q < i → i < o.length → o.getD q 0 ≠ o.getD i 0 ∧ aheadB (l.getD (o.getD i 0) op0) (l.getD (o.getD q 0) op0) = false) (h3 : ∀ x, x < l.length → (l.getD x op0).to = -1 ∨ x ∈ o) : respP l (iL o) = true := by
  unfold respP
  rw [Bool.and_eq_true, Bool.and_eq_true]
  refine ⟨?_, ?_, ?_⟩
  · unfold inAll
    rw [List.all_eq_true]
    intro i hi
    have hi' := List.mem_range.1 hi
    rw [iL_len] at hi'
    rw [iL_get]
    have hm : o.getD i 0 ∈ o := by rw [List.getD_eq_getElem?_getD, List.getElem?_eq_getElem hi']; exact List.getElem_mem hi'
    have := h1 _ hm
    unfold inR
    rw [decide_eq_true (by omega), decide_eq_true (by omega)]; rfl
  · unfold rowAll
    rw [List.all_eq_true]
    intro i hi
    have hi' := List.mem_range.1 hi
    rw [iL_len] at hi'
    unfold rowB rowK
    rw [List.all_eq_true]
    intro q hq
    obtain ⟨a, b⟩ := h2 i q (List.mem_range.1 hq) hi'
    unfold pairB
    rw [iL_get, iL_get]
    show (!(((o.getD q 0 : Nat) : Int) == ((o.getD i 0 : Nat) : Int)) && !aheadB (l.getD (o.getD i 0) op0) (l.getD (o.getD q 0) op0)) = true
    rw [b, beq_eq_false_iff_ne.2 (by omega)]; rfl
  · unfold allB
    rw [List.all_eq_true]
    intro n hn
    unfold thereB thereK
    rw [Bool.or_eq_true, List.any_eq_true]
    rcases h3 n (List.mem_range.1 hn) with e | e
    · left; rw [e]; rfl
    · right
      obtain ⟨i, hi, he⟩ := List.getElem_of_mem e
      refine ⟨i, List.mem_range.2 (by rw [iL_len]; exact hi), ?_⟩
      rw [iL_get, List.getD_eq_getElem?_getD, List.getElem?_eq_getElem hi, he, beq_iff_eq]; rfl
theorem Path.right {l : List OpD} {first : Int} {F : List Nat} {d : Nat} {v : Int} (h : Path l first F d v) (hl : leftB l d = false) : rightP l first (iL F) = true := by
  unfold rightP
  rw [resp_of2 h.went.inl h.went.row (fun x hx => (left_iff.1 hl x hx).imp id (fun e => (h.went.has x).1 e)), iL_nat, h.runs]; rfl
theorem Path.start (l : List OpD) (first : Int) : Path l first [] 0 first := ⟨Went.start l, rfl⟩
theorem Path.pick {l : List OpD} {first : Int} {F : List Nat} {d i : Nat} {v : Int} (hl : l.length ≤ 64) (h : Path l first F d v) (hi : i ∈ nextL l d) (ht : tellsB (l.getD i op0) v = true) : Path l first (F ++ [i]) (withN d i) (afterV (l.getD i op0) v) :=
  ⟨h.went.pick hl hi, runF_snoc l i F first h.runs ht⟩

/-- All states there may be. -/
def allS (l : List OpD) (first : Int) : List St := (List.range (2 ^ l.length)).flatMap fun d => (first :: l.map (·.val)).map fun v => (d, v)
theorem allS_len (l : List OpD) (first : Int) : (allS l first).length = 2 ^ l.length * (l.length + 1) := by
  unfold allS
  rw [List.length_flatMap]
  have : ((List.range (2 ^ l.length)).map fun d => ((first :: l.map (·.val)).map fun v => ((d, v) : St)).length) = List.replicate (2 ^ l.length) (l.length + 1) := by
    apply List.ext_getElem?
    intro i
    rw [List.getElem?_map, List.getElem?_replicate]
    by_cases h : i < 2 ^ l.length
    · rw [List.getElem?_range h, if_pos h]; simp
    · rw [List.getElem?_eq_none (by rw [List.length_range]; omega), if_neg h]; rfl
  rw [this, List.sum_replicate_nat]
theorem nodup_le {α : Type} [BEq α] [LawfulBEq α] : ∀ (T P : List α), T.Nodup → (∀ x ∈ T, x ∈ P) → T.length ≤ P.length
  | [], P, _, _ => Nat.zero_le _
  | a :: T, P, hn, h => by
    obtain ⟨h1, h2⟩ := List.nodup_cons.1 hn
    have ih := nodup_le T (P.erase a) h2 (fun x hx => by
      have hne : x ≠ a := fun e => h1 (e ▸ hx)
      exact (List.mem_erase_of_ne hne).2 (h x (List.mem_cons_of_mem _ hx)))
    rw [List.length_erase_of_mem (h a List.mem_cons_self)] at ih
    have : 0 < P.length := List.length_pos_of_mem (h a List.mem_cons_self)
    rw [List.length_cons]
    omega
/-- A value that may be there. -/
def ValIn (l : List OpD) (first v : Int) : Prop := v ∈ first :: l.map (·.val)
theorem ValIn.after {l : List OpD} {first v : Int} (h : ValIn l first v) {i : Nat} (hi : i < l.length) : ValIn l first (afterV (l.getD i op0) v) := by
  unfold afterV
  split
  · unfold ValIn
    refine List.mem_cons_of_mem _ (List.mem_map.2 ⟨l.getD i op0, ?_, rfl⟩)
    rw [List.getD_eq_getElem?_getD, List.getElem?_eq_getElem hi]; exact List.getElem_mem hi
  · exact h
theorem mem_allS {l : List OpD} {first v : Int} {d : Nat} (hd : d < 2 ^ l.length) (hv : ValIn l first v) : ((d, v) : St) ∈ allS l first := by
  unfold allS
  exact List.mem_flatMap.2 ⟨d, List.mem_range.2 hd, List.mem_map.2 ⟨v, hv, rfl⟩⟩
theorem Went.small {l : List OpD} {F : List Nat} {d : Nat} (h : Went l F d) : d < 2 ^ l.length := by
  apply Nat.lt_pow_two_of_testBit
  intro i hi
  rw [← hasB_bit]
  cases hb : hasB d i
  · rfl
  · have := h.inl i ((h.has i).1 hb); omega
/-- The states that were tried, as the search holds them. -/
structure Tried (l : List OpD) (first : Int) (T : List St) : Prop where
  nd : T.Nodup
  ins : ∀ s ∈ T, s ∈ allS l first
theorem Tried.few {l : List OpD} {first : Int} {T : List St} (h : Tried l first T) (hl : l.length ≤ 24) : T.length ≤ 500000000 := by
  have h1 := nodup_le T _ h.nd h.ins
  rw [allS_len] at h1
  have h2 : 2 ^ l.length ≤ 2 ^ 24 := Nat.pow_le_pow_right (by decide) hl
  have h3 : 2 ^ l.length * (l.length + 1) ≤ 2 ^ 24 * 25 := Nat.mul_le_mul h2 (by omega)
  have h4 : (2 : Nat) ^ 24 * 25 = 419430400 := by decide
  omega
theorem Tried.note {l : List OpD} {first : Int} {T : List St} (h : Tried l first T) {d : Nat} {v : Int} (hd : d < 2 ^ l.length) (hv : ValIn l first v) (hn : ((d, v) : St) ∉ T) : Tried l first (T ++ [(d, v)]) := by
  refine ⟨?_, fun s hs => ?_⟩
  · rw [List.nodup_append]
    refine ⟨h.nd, by simp, fun a ha b hb => ?_⟩
    rw [List.mem_singleton.1 hb]
    exact fun e => hn (e ▸ ha)
  · rcases List.mem_append.1 hs with e | e
    · exact h.ins s e
    · rw [List.mem_singleton.1 e]; exact mem_allS hd hv
/-- What is known when a search of a state comes back. -/
def TryOut (l : List OpD) (first : Int) (T : List St) (F : List Nat) (d : Nat) (v : Int) (ok : Bool) (T' : List St) (F' : List Nat) : Prop :=
  (ok = true → (∃ d' v', Path l first F' d' v' ∧ leftB l d' = false) ∧ Comp l d v) ∧ (ok = false → F' = F ∧ (d, v) ∈ T' ∧ ∃ E, T' = T ++ E ∧ ∀ s ∈ E, ClosedP l T' s)
theorem TryOut.top {l : List OpD} {first : Int} {ok : Bool} {T' : List St} {F' : List Nat} (h : TryOut l first [] [] 0 first ok T' F') : (ok = true ↔ Comp l 0 first) ∧ (ok = true → rightP l first (iL F') = true) := by
  refine ⟨⟨fun e => (h.1 e).2, fun c => ?_⟩, fun e => ?_⟩
  · cases hok : ok with
    | true => rfl
    | false =>
      obtain ⟨_, hm, E, hE, hc⟩ := h.2 hok
      rw [List.nil_append] at hE
      rw [← hE] at hc
      exact absurd hm (closedP_none hc (und l 0) 0 first (Nat.le_refl _) c.w)
  · obtain ⟨⟨d', v', hp, hl⟩, _⟩ := h.1 e
    exact hp.right hl
/-- Between two of the next ones: those before were tried in vain. -/
structure Mid (l : List OpD) (T : List St) (d : Nat) (v : Int) (j : Nat) (T1 : List St) : Prop where
  ext : ∃ E, T1 = T ++ [(d, v)] ++ E ∧ ∀ s ∈ E, ClosedP l T1 s
  old : ∀ q, q < j → goB (l.getD ((nextL l d).getD q 0) op0) v = true → child l d v ((nextL l d).getD q 0) ∈ T1
theorem Mid.start (l : List OpD) (T : List St) (d : Nat) (v : Int) : Mid l T d v 0 (T ++ [(d, v)]) := ⟨⟨[], by simp, fun s h => by cases h⟩, fun q h => absurd h (Nat.not_lt_zero q)⟩
theorem Mid.skip {l : List OpD} {T : List St} {d : Nat} {v : Int} {j : Nat} {T1 : List St} (h : Mid l T d v j T1) (hg : goB (l.getD ((nextL l d).getD j 0) op0) v = false) : Mid l T d v (j + 1) T1 :=
  ⟨h.ext, fun q hq hgq => by
    by_cases e : q = j
    · subst e; rw [hg] at hgq; cases hgq
    · exact h.old q (by omega) hgq⟩
theorem Mid.tried {l : List OpD} {T : List St} {d : Nat} {v : Int} {j : Nat} {T1 T2 E2 : List St} (h : Mid l T d v j T1) (h2 : T2 = T1 ++ E2) (hc : ∀ s ∈ E2, ClosedP l T2 s) (hm : child l d v ((nextL l d).getD j 0) ∈ T2) : Mid l T d v (j + 1) T2 := by
  obtain ⟨E, he, hE⟩ := h.ext
  refine ⟨⟨E ++ E2, by rw [h2, he, List.append_assoc (T ++ [(d, v)])], fun s hs => ?_⟩, fun q hq hg => ?_⟩
  · rcases List.mem_append.1 hs with e | e
    · rw [h2]; exact (hE s e).more E2
    · exact hc s e
  · by_cases e : q = j
    · subst e; exact hm
    · rw [h2]; exact List.mem_append_left _ (h.old q (by omega) hg)
theorem Mid.fail {l : List OpD} {first : Int} {T : List St} {F : List Nat} {d : Nat} {v : Int} {j : Nat} {T1 : List St} (h : Mid l T d v j T1) (hl : leftB l d = true)
    (hc : (nextL l d).length ≤ j ∨ ∃ i ∈ nextL l d, (l.getD i op0).wr = false ∧ child l d v i ∈ T1) : TryOut l first T F d v false T1 F := by
  refine ⟨(fun e => by cases e), fun _ => ?_⟩
  obtain ⟨E, he, hE⟩ := h.ext
  refine ⟨rfl, by rw [he]; simp, (d, v) :: E, by rw [he]; simp, fun s hs => ?_⟩
  rcases List.mem_cons.1 hs with e | e
  · subst e
    refine ⟨hl, ?_⟩
    rcases hc with hc | hc
    · left
      intro i hi hg
      obtain ⟨q, hq, rfl⟩ := List.getElem_of_mem hi
      have e : (nextL l d).getD q 0 = (nextL l d)[q] := by rw [List.getD_eq_getElem?_getD, List.getElem?_eq_getElem hq]; rfl
      have hq' : q < (nextL l d).length := hq
      have := h.old q (by omega) (by rw [e]; exact hg)
      rw [e] at this
      exact this
    · exact .inr hc
  · exact hE s e
theorem tryOut_all {l : List OpD} {first : Int} {T : List St} {F : List Nat} {d : Nat} {v : Int} (hp : Path l first F d v) (hl : leftB l d = false) : TryOut l first T F d v true T F :=
  ⟨fun _ => ⟨⟨d, v, hp, hl⟩, .all d v hl⟩, (fun e => by cases e)⟩
theorem tryOut_again {l : List OpD} {first : Int} {T : List St} {F : List Nat} {d : Nat} {v : Int} (hm : (d, v) ∈ T) : TryOut l first T F d v false T F :=
  ⟨(fun e => by cases e), fun _ => ⟨rfl, hm, [], by simp, fun s h => by cases h⟩⟩
theorem tryOut_child {l : List OpD} {first : Int} {T T1 T2 : List St} {F F1 F2 : List Nat} {d i : Nat} {v : Int} (hi : i ∈ nextL l d) (ht : tellsB (l.getD i op0) v = true) (h : TryOut l first T1 F1 (withN d i) (afterV (l.getD i op0) v) true T2 F2) : TryOut l first T F d v true T2 F2 :=
  ⟨fun _ => ⟨(h.1 rfl).1, .pick d v i hi ht (h.1 rfl).2⟩, (fun e => by cases e)⟩
theorem left_diff {l : List OpD} (hl : l.length ≤ 64) (d : Nat) : (diffN (overL l) d == 0) = !leftB l d := by
  rw [Bool.eq_iff_iff, beq_iff_eq, diff_zero, Bool.not_eq_true', left_iff]
  constructor
  · intro h i hi
    by_cases ht : (l.getD i op0).to = -1
    · exact .inl ht
    · right
      refine h i (by omega) ?_
      unfold overL
      rw [overK_has, decide_eq_true hi, Bool.true_and, Bool.not_eq_true', beq_eq_false_iff_ne]
      exact ht
  · intro h i _ hi
    unfold overL at hi
    rw [overK_has, Bool.and_eq_true, Bool.not_eq_true', beq_eq_false_iff_ne] at hi
    rcases h i (of_decide_eq_true hi.1) with e | e
    · exact absurd e hi.2
    · exact e

end Go.Proofs.YtpefcbmmbpcalaaDoor
