/-
  Stamps as plain data: what is new over some rows; whoever took one dominates all who took theirs earlier.
-/
import Derived.Test.YtlclijnoablejaaDoorSyC
set_option linter.unusedVariables false
set_option linter.unusedSimpArgs false
namespace Go.Proofs.YtlclijnoablejaaDoor
open Go.RowKit

def hdR (r : List Int) : Int := r.headD 0
/-- The one that is greatest, as the code finds it. -/
def gr (l : List (List Int)) (t : List Int) : List Int := l.foldl (fun t r => if domI r t then r else t) t
def topD (l : List (List Int)) : Int := hdR (gr l (l.headD []))
def nearL (l : List (List Int)) (d : Int) : List (List Int) := (l.filter fun r => hdR r == d).map List.tail
def overP : Nat → List (List Int) → List Int
  | 0, _ => []
  | k + 1, l => if l = [] then List.replicate (k + 1) 0 else
    if (nearL l (topD l)).length < k + 1 then topD l :: overP k (nearL l (topD l)) else nextI (topD l) :: List.replicate k 0
theorem overP_len : ∀ (k : Nat) (l : List (List Int)), (overP k l).length = k
  | 0, _ => rfl
  | k + 1, l => by
    unfold overP
    split
    · simp
    · split
      · simp [overP_len k]
      · simp
theorem nextI_dig (d : Int) : digB (nextI d) = true := by
  unfold nextI; split
  · rfl
  · split <;> rfl
theorem nextI_ne {d : Int} (h : digB d = true) : nextI d ≠ d := by rcases digB_cases d h with rfl | rfl | rfl <;> decide
theorem beats_next {d : Int} (h : digB d = true) : beatsI (nextI d) d = true := by rcases digB_cases d h with rfl | rfl | rfl <;> decide
theorem beats_back {d : Int} (h : digB d = true) : beatsI d (nextI d) = false := by rcases digB_cases d h with rfl | rfl | rfl <;> decide
theorem domL_irr (a : List Int) : domL a a = false := by
  induction a with
  | nil => rfl
  | cons x a ih => simp [domL, ih]

/-- Rows of k digits. -/
def RowK (k : Nat) (r : List Int) : Prop := r.length = k ∧ r.all digB = true
theorem RowK.tail {k : Nat} {r : List Int} (h : RowK (k + 1) r) : RowK k r.tail ∧ r = hdR r :: r.tail ∧ digB (hdR r) = true := by
  cases r with
  | nil => cases h.1
  | cons x r =>
    have h2 := h.2
    simp only [List.all_cons, Bool.and_eq_true] at h2
    exact ⟨⟨by have := h.1; simpa using this, h2.2⟩, rfl, h2.1⟩
theorem RowK.cons {k : Nat} {r : List Int} {d : Int} (h : RowK k r) (hd : digB d = true) : RowK (k + 1) (d :: r) := ⟨by simp [h.1], by simp [h.2, hd]⟩
theorem RowK.zeros (k : Nat) : RowK k (List.replicate k 0) := ⟨by simp, by
  rw [List.all_eq_true]; intro x hx; rw [List.mem_replicate] at hx; rw [hx.2]; rfl⟩
theorem RowK.fine {k : Nat} {r : List Int} (h : RowK k r) (hk : k ≤ 8) : fineL r = true := by
  unfold fineL; rw [h.2, h.1, decide_eq_true hk]; rfl
theorem domI_of {k : Nat} {a b : List Int} (ha : RowK k a) (hb : RowK k b) (hk : k ≤ 8) : domI a b = domL a b := by
  unfold domI; rw [ha.fine hk, hb.fine hk, ha.1, hb.1]; simp
theorem domL_cons (x y : Int) (a b : List Int) : domL (x :: a) (y :: b) = if x = y then domL a b else beatsI x y := rfl

/-- The greatest one's first digit: of two digits the one that beats, if it is there. -/
theorem gr_head {k : Nat} (hk : k + 1 ≤ 8) {d : Int} (hd0 : digB d = true) : ∀ (l : List (List Int)) (t : List Int), RowK (k + 1) t → (∀ r, r ∈ l → RowK (k + 1) r ∧ (hdR r = d ∨ hdR r = nextI d)) → (hdR t = d ∨ hdR t = nextI d) →
    RowK (k + 1) (gr l t) ∧ ((∃ r, r ∈ t :: l ∧ hdR r = nextI d) → hdR (gr l t) = nextI d) ∧ ((∀ r, r ∈ t :: l → hdR r = d) → hdR (gr l t) = d)
  | [], t, ht, _, _ => ⟨ht, fun ⟨r, hr, h⟩ => by simp at hr; subst hr; exact h, fun h => h t (by simp)⟩
  | r :: l, t, ht, hl, hh => by
    have hr := hl r (by simp)
    obtain ⟨rt, re, rd⟩ := hr.1.tail
    obtain ⟨tt, te, td⟩ := ht.tail
    have e : gr (r :: l) t = gr l (if domI r t then r else t) := rfl
    rw [e, domI_of hr.1 ht hk]
    have hl' : ∀ r', r' ∈ l → RowK (k + 1) r' ∧ (hdR r' = d ∨ hdR r' = nextI d) := fun r' h => hl r' (by simp [h])
    have hdom : domL r t = if hdR r = hdR t then domL r.tail t.tail else beatsI (hdR r) (hdR t) := by rw [re, te]; rfl
    by_cases hrt : domL r t = true
    · rw [if_pos hrt]
      obtain ⟨h1, h2, h3⟩ := gr_head hk hd0 l r hr.1 hl' hr.2
      refine ⟨h1, fun ⟨q, hq, hqe⟩ => ?_, fun h => h3 (fun q hq => h q (by simp at hq ⊢; rcases hq with h | h <;> simp [h]))⟩
      rcases List.mem_cons.1 hq with rfl | hq
      · by_cases hx : hdR r = hdR q
        · exact h2 ⟨r, by simp, by rw [hx]; exact hqe⟩
        · have hrd : hdR r = d := by
            rcases hr.2 with h | h
            · exact h
            · exact absurd (h.trans hqe.symm) hx
          rw [hdom, if_neg hx, hrd, hqe, beats_back hd0] at hrt
          cases hrt
      · exact h2 ⟨q, hq, hqe⟩
    · rw [if_neg hrt]
      obtain ⟨h1, h2, h3⟩ := gr_head hk hd0 l t ht hl' hh
      refine ⟨h1, fun ⟨q, hq, hqe⟩ => ?_, fun h => h3 (fun q hq => h q (by simp at hq ⊢; rcases hq with h | h <;> simp [h]))⟩
      rcases List.mem_cons.1 hq with rfl | hq
      · exact h2 ⟨q, by simp, hqe⟩
      · rcases List.mem_cons.1 hq with rfl | hq
        · by_cases hx : hdR q = hdR t
          · exact h2 ⟨t, by simp, by rw [← hx]; exact hqe⟩
          · have htd : hdR t = d := by
              rcases hh with h | h
              · exact h
              · exact absurd (hqe.trans h.symm) hx
            rw [hdom, if_neg hx, htd, hqe, beats_next hd0] at hrt
            exact absurd rfl hrt
        · exact h2 ⟨q, by simp [hq], hqe⟩

/-- At most so many of a kind. -/
def AtMost (P : Nat → Prop) (n : Nat) : Prop := ∀ T : List Nat, T.Nodup → (∀ t, t ∈ T → P t) → T.length ≤ n
theorem AtMost.mono {P Q : Nat → Prop} {n m : Nat} (h : AtMost P n) (hq : ∀ t, Q t → P t) (hn : n ≤ m) : AtMost Q m := fun T hT hm => Nat.le_trans (h T hT (fun t ht => hq t (hm t ht))) hn
theorem nodup_le : ∀ (T L : List Nat), T.Nodup → (∀ t, t ∈ T → t ∈ L) → T.length ≤ L.length
  | [], _, _, _ => Nat.zero_le _
  | a :: T, L, hT, h => by
    rw [List.nodup_cons] at hT
    have ha : a ∈ L := h a (by simp)
    have := nodup_le T (L.erase a) hT.2 (fun t ht => by
      have : t ≠ a := fun e => hT.1 (e ▸ ht)
      exact (List.mem_erase_of_ne this).2 (h t (by simp [ht])))
    rw [List.length_erase_of_mem ha] at this
    have hp : 0 < L.length := List.length_pos_of_mem ha
    simp; omega
theorem AtMost.list (L : List Nat) (n : Nat) (h : L.length ≤ n) (P : Nat → Prop) (hP : ∀ t, P t → t ∈ L) : AtMost P n := fun T hT hm => Nat.le_trans (nodup_le T L hT (fun t ht => hP t (hm t ht))) h
theorem AtMost.one (a : Nat) (P : Nat → Prop) (h : ∀ t, P t → t = a) (n : Nat) (hn : 1 ≤ n) : AtMost P n := AtMost.list [a] n hn P (fun t ht => by simp [h t ht])

/-- Never three first digits at once, at any depth. -/
def Good : Nat → (Nat → List Int) → (Nat → Prop) → Prop
  | 0, _, P => AtMost P 1
  | k + 1, f, P => AtMost P (k + 2) ∧ (∃ d, digB d = true ∧ ∀ t, P t → hdR (f t) = d ∨ hdR (f t) = nextI d) ∧
    ∀ (x : Int) (Q : Nat → Prop), (∀ t, Q t → P t ∧ hdR (f t) = x) → AtMost Q (k + 1) → Good k (fun t => (f t).tail) Q
theorem Good.mono : ∀ (k : Nat) {f g : Nat → List Int} {P Q : Nat → Prop}, Good k f P → (∀ t, Q t → P t) → (∀ t, Q t → g t = f t) → Good k g Q
  | 0, _, _, _, _, h, hq, _ => AtMost.mono h hq (Nat.le_refl _)
  | k + 1, f, g, P, Q, h, hq, hg => by
    refine ⟨h.1.mono hq (Nat.le_refl _), ?_, fun x R hR hn => ?_⟩
    · obtain ⟨d, hd0, hh⟩ := h.2.1
      exact ⟨d, hd0, fun t ht => by rw [hg t ht]; exact hh t (hq t ht)⟩
    · refine Good.mono k (h.2.2 x R (fun t ht => ?_) hn) (fun t ht => ht) (fun t ht => by rw [hg t (hR t ht).1])
      have := hR t ht
      exact ⟨hq t this.1, by rw [← hg t this.1]; exact this.2⟩
theorem Good.single : ∀ (k : Nat) {f : Nat → List Int} {P : Nat → Prop} (a : Nat), (∀ t, P t → t = a) → RowK k (f a) → Good k f P
  | 0, _, _, a, h, _ => AtMost.one a _ h 1 (Nat.le_refl _)
  | k + 1, f, P, a, h, hr => by
    obtain ⟨h1, h2, h3⟩ := hr.tail
    refine ⟨AtMost.one a _ h _ (by omega), ⟨hdR (f a), h3, fun t ht => .inl (by rw [h t ht])⟩, fun x Q hQ _ => ?_⟩
    exact Good.single k a (fun t ht => h t (hQ t ht).1) h1
theorem Good.zeros : ∀ (k : Nat) {P : Nat → Prop}, AtMost P (k + 1) → Good k (fun _ => List.replicate k 0) P
  | 0, _, h => h
  | k + 1, P, h => by
    refine ⟨h, ⟨0, rfl, fun t _ => .inl rfl⟩, fun x Q hQ hn => ?_⟩
    have e : (fun t : Nat => (List.replicate (k + 1) (0 : Int)).tail) = fun _ => List.replicate k 0 := by funext t; rfl
    rw [e]
    exact Good.zeros k hn
def upd (f : Nat → List Int) (a : Nat) (r : List Int) : Nat → List Int := fun t => if t = a then r else f t
theorem upd_same (f : Nat → List Int) (a : Nat) (r : List Int) : upd f a r a = r := if_pos rfl
theorem upd_ne {f : Nat → List Int} {a t : Nat} {r : List Int} (h : t ≠ a) : upd f a r t = f t := if_neg h

/-- What is new over some rows dominates them, and keeps the board good. -/
theorem take_good : ∀ (k : Nat) (f : Nat → List Int) (O : List Nat) (me : Nat), k ≤ 8 → me ∉ O → O.length ≤ k → (∀ t, t ∈ O → RowK k (f t)) → Good k f (· ∈ O) →
    RowK k (overP k (O.map f)) ∧ Good k (upd f me (overP k (O.map f))) (fun t => t ∈ O ∨ t = me) ∧ ∀ t, t ∈ O → domL (overP k (O.map f)) (f t) = true
  | 0, f, O, me, _, hm, hO, hr, hg => by
    have : O = [] := List.eq_nil_of_length_eq_zero (by omega)
    subst this
    exact ⟨⟨rfl, rfl⟩, AtMost.one me _ (fun t ht => by simpa using ht) 1 (Nat.le_refl _), fun t ht => by cases ht⟩
  | k + 1, f, O, me, hk8, hm, hO, hr, hg => by
    by_cases hn : O = []
    · subst hn
      have e : overP (k + 1) (([] : List Nat).map f) = List.replicate (k + 1) 0 := by unfold overP; rfl
      rw [e]
      exact ⟨RowK.zeros _, Good.single _ me (fun t ht => by simpa using ht) (by rw [upd_same]; exact RowK.zeros _), fun t ht => by cases ht⟩
    · obtain ⟨hA, ⟨d0, hd0, hh⟩, hsub⟩ := hg
      obtain ⟨a, O1, rfl⟩ := List.exists_cons_of_ne_nil hn
      have ha : a ∈ a :: O1 := by simp
      have hgr := gr_head (k := k) hk8 hd0 ((a :: O1).map f) (f a) (hr a ha) (fun r hrm => by
        obtain ⟨t, ht, rfl⟩ := List.mem_map.1 hrm
        exact ⟨hr t ht, hh t ht⟩) (hh a ha)
      have htop : topD ((a :: O1).map f) = hdR (gr ((a :: O1).map f) (f a)) := rfl
      obtain ⟨g1, g2, g3⟩ := hgr
      -- the digit that is found
      obtain ⟨d, hd, hdd, hwhich⟩ : ∃ d, topD ((a :: O1).map f) = d ∧ digB d = true ∧ ((d = nextI d0) ∨ (d = d0 ∧ ∀ t, t ∈ a :: O1 → hdR (f t) = d0)) := by
        by_cases hx : ∃ t, t ∈ a :: O1 ∧ hdR (f t) = nextI d0
        · obtain ⟨t, ht, hte⟩ := hx
          exact ⟨nextI d0, htop.trans (g2 ⟨f t, List.mem_cons_of_mem _ (List.mem_map_of_mem ht), hte⟩), nextI_dig _, .inl rfl⟩
        · have hall : ∀ t, t ∈ a :: O1 → hdR (f t) = d0 := fun t ht => (hh t ht).elim id (fun h => absurd ⟨t, ht, h⟩ hx)
          refine ⟨d0, htop.trans (g3 (fun r hrm => ?_)), hd0, .inr ⟨rfl, hall⟩⟩
          rcases List.mem_cons.1 hrm with rfl | hrm
          · exact hall a ha
          · obtain ⟨t, ht, rfl⟩ := List.mem_map.1 hrm
            exact hall t ht
      have hdom : ∀ t, t ∈ a :: O1 → hdR (f t) ≠ d → beatsI d (hdR (f t)) = true := by
        intro t ht hne
        rcases hwhich with rfl | ⟨rfl, hall⟩
        · rcases hh t ht with h | h
          · rw [h]; exact beats_next hd0
          · exact absurd h hne
        · exact absurd (hall t ht) hne
      have hnear : nearL ((a :: O1).map f) d = ((a :: O1).filter fun t => hdR (f t) == d).map (fun t => (f t).tail) := by
        unfold nearL
        rw [List.filter_map, List.map_map]
        rfl
      obtain ⟨O', hO'⟩ : ∃ O', (a :: O1).filter (fun t => hdR (f t) == d) = O' := ⟨_, rfl⟩
      have hmem : ∀ t, t ∈ O' ↔ t ∈ a :: O1 ∧ hdR (f t) = d := by
        intro t; rw [← hO', List.mem_filter, beq_iff_eq]
      have hlen : (nearL ((a :: O1).map f) d).length = O'.length := by rw [hnear, hO', List.length_map]
      have hne : (a :: O1).map f ≠ [] := by simp
      by_cases hlt : O'.length < k + 1
      · have e : overP (k + 1) ((a :: O1).map f) = d :: overP k (O'.map fun t => (f t).tail) := by
          rw [overP, if_neg hne, hd, hlen, if_pos hlt, hnear, hO']
        rw [e]
        have hin : Good k (fun t => (f t).tail) (· ∈ O') := hsub d (· ∈ O') (fun t ht => (hmem t).1 ht) (AtMost.list O' _ (by omega) _ (fun t ht => ht))
        obtain ⟨i1, i2, i3⟩ := take_good k (fun t => (f t).tail) O' me (by omega) (fun h => hm ((hmem me).1 h).1) (by omega) (fun t ht => (hr t ((hmem t).1 ht).1).tail.1) hin
        refine ⟨i1.cons hdd, ⟨?_, ⟨d0, hd0, fun t ht => ?_⟩, fun x Q hQ hn => ?_⟩, fun t ht => ?_⟩
        · refine AtMost.list (me :: a :: O1) _ (by simp at hO ⊢; omega) _ (fun t ht => ?_)
          rcases ht with h | h
          · exact List.mem_cons_of_mem _ h
          · rw [h]; simp
        · by_cases htm : t = me
          · rw [htm, upd_same]
            show d = d0 ∨ d = nextI d0
            rcases hwhich with h | ⟨h, _⟩
            · exact .inr h
            · exact .inl h
          · rw [upd_ne htm]
            exact hh t (ht.resolve_right htm)
        · by_cases hx : x = d
          · subst hx
            refine Good.mono k i2 (fun t ht => ?_) (fun t ht => ?_)
            · obtain ⟨h1, h2⟩ := hQ t ht
              by_cases htm : t = me
              · exact .inr htm
              · rw [upd_ne htm] at h2
                exact .inl ((hmem t).2 ⟨h1.resolve_right htm, h2⟩)
            · by_cases htm : t = me
              · subst htm; rw [upd_same, upd_same]; rfl
              · rw [upd_ne htm, upd_ne htm]
          · have hnm : ∀ t, Q t → t ≠ me := fun t ht htm => by
              have := (hQ t ht).2
              rw [htm, upd_same] at this
              exact hx this.symm
            refine Good.mono k (hsub x Q (fun t ht => ?_) hn) (fun t ht => ht) (fun t ht => by rw [upd_ne (hnm t ht)])
            have h := hQ t ht
            rw [upd_ne (hnm t ht)] at h
            exact ⟨h.1.resolve_right (hnm t ht), h.2⟩
        · obtain ⟨_, he, _⟩ := (hr t ht).tail
          rw [he, domL_cons]
          by_cases hx : d = hdR (f t)
          · rw [if_pos hx]
            exact i3 t ((hmem t).2 ⟨ht, hx.symm⟩)
          · rw [if_neg hx]
            exact hdom t ht (fun h => hx h.symm)
      · have e : overP (k + 1) ((a :: O1).map f) = nextI d :: List.replicate k 0 := by
          rw [overP, if_neg hne, hd, hlen, if_neg hlt]
        rw [e]
        have hall : ∀ t, t ∈ a :: O1 → hdR (f t) = d := by
          have hl : O'.length = (a :: O1).length := by
            have : O'.length ≤ (a :: O1).length := by rw [← hO']; exact List.length_filter_le _ _
            omega
          rw [← hO'] at hl
          have := List.length_filter_eq_length_iff.1 hl
          intro t ht
          simpa using this t ht
        refine ⟨(RowK.zeros k).cons (nextI_dig d), ⟨?_, ⟨d, hdd, fun t ht => ?_⟩, fun x Q hQ hn => ?_⟩, fun t ht => ?_⟩
        · refine AtMost.list (me :: a :: O1) _ (by simp at hO ⊢; omega) _ (fun t ht => ?_)
          rcases ht with h | h
          · exact List.mem_cons_of_mem _ h
          · rw [h]; simp
        · by_cases htm : t = me
          · rw [htm, upd_same]; exact .inr rfl
          · rw [upd_ne htm]; exact .inl (hall t (ht.resolve_right htm))
        · by_cases hx : x = nextI d
          · subst hx
            refine Good.single k me (fun t ht => ?_) (by rw [upd_same]; exact RowK.zeros k)
            by_cases htm : t = me
            · exact htm
            · have h := hQ t ht
              rw [upd_ne htm] at h
              exact absurd (h.2.symm.trans (hall t (h.1.resolve_right htm))) (nextI_ne hdd)
          · have hnm : ∀ t, Q t → t ≠ me := fun t ht htm => by
              have := (hQ t ht).2
              rw [htm, upd_same] at this
              exact hx this.symm
            refine Good.mono k (hsub x Q (fun t ht => ?_) hn) (fun t ht => ht) (fun t ht => by rw [upd_ne (hnm t ht)])
            have h := hQ t ht
            rw [upd_ne (hnm t ht)] at h
            exact ⟨h.1.resolve_right (hnm t ht), h.2⟩
        · obtain ⟨_, he, _⟩ := (hr t ht).tail
          rw [he, domL_cons, hall t ht, if_neg (nextI_ne hdd)]
          exact beats_next hdd

end Go.Proofs.YtlclijnoablejaaDoor
