/-
  Whoever takes stamps: the plain law.
-/
import Derived.Test.YtlclijnoablejaaDoorStaM
set_option linter.unusedVariables false
set_option linter.unusedSimpArgs false
namespace Go.Proofs.YtlclijnoablejaaDoor
open Go.RowKit

theorem beats_anti (a b : Int) (h : beatsI a b = true) : beatsI b a = false := by
  unfold beatsI at h ⊢
  simp only [Bool.or_eq_true, Bool.and_eq_true, beq_iff_eq] at h
  rcases h with (⟨rfl, rfl⟩ | ⟨rfl, rfl⟩) | ⟨rfl, rfl⟩ <;> rfl
theorem domL_anti : ∀ (a b : List Int), domL a b = true → domL b a = false
  | [], _, h => by cases h
  | _ :: _, [], h => by cases h
  | x :: a, y :: b, h => by
    rw [domL_cons] at h ⊢
    by_cases hxy : x = y
    · rw [if_pos hxy] at h
      rw [if_pos hxy.symm]
      exact domL_anti a b h
    · rw [if_neg hxy] at h
      rw [if_neg (fun e => hxy e.symm)]
      exact beats_anti _ _ h

/-- What holds behind each stamp: wh x is when x took its last one. -/
structure Inv (n : Nat) (L : List (List Int)) (wh : List Int) (j : Nat) : Prop where
  len : L.length = n
  row : ∀ t, t < n → RowK (n - 1) (L.getD t [])
  good : Good (n - 1) (fun t => L.getD t []) (· < n)
  wl : wh.length = 8
  dom : ∀ x y, x < n → y < n → wh.getD y 0 < wh.getD x 0 → domL (L.getD x []) (L.getD y []) = true
  le : ∀ x, wh.getD x 0 ≤ j
theorem getD_of {n : Nat} (L : List (List Int)) (h : ∀ t, t < L.length → RowK (n - 1) (L.getD t [])) : ∀ r ∈ L, RowK (n - 1) r := by
  intro r hr
  obtain ⟨t, ht, rfl⟩ := List.getElem_of_mem hr
  have := h t ht
  rw [List.getD_eq_getElem?_getD, List.getElem?_eq_getElem ht] at this
  exact this
theorem Inv.fine {n : Nat} {L : List (List Int)} {wh : List Int} {j : Nat} (h : Inv n L wh j) (h1 : 1 ≤ n) (h8 : n ≤ 8) : fineBd L = true := by
  unfold fineBd
  have hl := h.len
  rw [decide_eq_true (by omega), decide_eq_true (by omega)]
  have hr : rowsB L ((n - 1 : Nat) : Int) = true := rowK_rowsB (by omega) (getD_of L (fun t ht => h.row t (by omega)))
  rw [show (L.length : Int) - 1 = ((n - 1 : Nat) : Int) by omega, hr]; rfl
theorem zeros8 (x : Nat) : ([0, 0, 0, 0, 0, 0, 0, 0] : List Int).getD x 0 = 0 := by
  rw [show ([0, 0, 0, 0, 0, 0, 0, 0] : List Int) = List.replicate 8 0 from rfl, List.getD_eq_getElem?_getD, List.getElem?_replicate]
  split <;> rfl
theorem Inv.zero (n : Nat) (h1 : 1 ≤ n) : Inv n (newP n) [0, 0, 0, 0, 0, 0, 0, 0] 0 := by
  have hg : ∀ t, t < n → (newP n).getD t [] = List.replicate (n - 1) 0 := fun t ht => getD_rep ht
  refine ⟨by simp [newP], fun t ht => by rw [hg t ht]; exact RowK.zeros _, ?_, rfl, fun x y hx hy h => by rw [zeros8, zeros8] at h; omega, fun x => by rw [zeros8]; omega⟩
  have h := Good.zeros (n - 1) (P := (· < n)) (AtMost.list (List.range n) _ (by simp; omega) _ (fun t ht => by simpa using ht))
  exact Good.mono _ h (fun t ht => ht) (fun t ht => hg t ht)
theorem getD_set_int (l : List Int) (i k : Nat) (v : Int) (h : i < l.length) : (l.set i v).getD k 0 = if k = i then v else l.getD k 0 := by
  by_cases e : k = i
  · subst e
    rw [if_pos rfl, List.getD_eq_getElem?_getD, List.getElem?_set_self h]; rfl
  · rw [if_neg e, List.getD_eq_getElem?_getD, List.getElem?_set_ne (fun x => e x.symm), ← List.getD_eq_getElem?_getD]

theorem Inv.take {n : Nat} {L : List (List Int)} {wh : List Int} {j me : Nat} (h : Inv n L wh j) (h1 : 1 ≤ n) (h8 : n ≤ 8) (hm : me < n) :
    Inv n (takeP L me) (wh.set me ((j : Int) + 1)) (j + 1) ∧ ∀ t, t < n → t ≠ me → domL ((takeP L me).getD me []) ((takeP L me).getD t []) = true := by
  have hO : ∀ t, t ∈ (List.range n).filter (· != me) ↔ t < n ∧ t ≠ me := fun t => by simp [List.mem_filter]
  have hlen : ((List.range n).filter (· != me)).length ≤ n - 1 := by
    have e := othersJ_len L me n
    unfold othersJ at e
    rw [List.length_map, if_pos hm] at e
    omega
  obtain ⟨g1, g2, g3⟩ := take_good (n - 1) (fun t => L.getD t []) ((List.range n).filter (· != me)) me (by omega) (fun x => ((hO me).1 x).2 rfl) hlen (fun t ht => h.row t ((hO t).1 ht).1) (Good.mono _ h.good (fun t ht => ((hO t).1 ht).1) (fun t ht => rfl))
  have eo : overP (n - 1) (((List.range n).filter (· != me)).map fun t => L.getD t []) = overP (L.length - 1) (othersJ L me L.length) := by rw [h.len]; rfl
  rw [eo] at g1 g2 g3
  have hme : me < L.length := by rw [h.len]; exact hm
  have es := takeP_same hme
  rw [← es] at g1 g2 g3
  have en : ∀ t, t ≠ me → (takeP L me).getD t [] = L.getD t [] := fun t ht => takeP_ne ht
  have hw : ∀ k, (wh.set me ((j : Int) + 1)).getD k 0 = if k = me then (j : Int) + 1 else wh.getD k 0 := fun k => getD_set_int wh me k _ (by rw [h.wl]; omega)
  have hdom : ∀ t, t < n → t ≠ me → domL ((takeP L me).getD me []) ((takeP L me).getD t []) = true := fun t ht hne => by
    rw [en t hne]
    exact g3 t ((hO t).2 ⟨ht, hne⟩)
  refine ⟨⟨by unfold takeP; rw [List.length_set]; exact h.len, fun t ht => ?_, ?_, by rw [List.length_set]; exact h.wl, fun x y hx hy hlt => ?_, fun x => ?_⟩, hdom⟩
  · by_cases e : t = me
    · rw [e]; exact g1
    · rw [en t e]; exact h.row t ht
  · refine Good.mono _ g2 (fun t ht => ?_) (fun t ht => ?_)
    · by_cases e : t = me
      · exact .inr e
      · exact .inl ((hO t).2 ⟨ht, e⟩)
    · by_cases e : t = me
      · rw [e, upd_same]
      · rw [upd_ne e]; exact en t e
  · rw [hw, hw] at hlt
    by_cases ex : x = me
    · rw [if_pos ex] at hlt
      by_cases ey : y = me
      · rw [if_pos ey] at hlt; omega
      · rw [ex]; exact hdom y hy ey
    · rw [if_neg ex] at hlt
      by_cases ey : y = me
      · rw [if_pos ey] at hlt
        have := h.le x
        omega
      · rw [if_neg ey] at hlt
        rw [en x ex, en y ey]
        exact h.dom x y hx hy hlt
  · rw [hw]
    split
    · omega
    · have := h.le x; omega

theorem Inv.behind {n : Nat} {L : List (List Int)} {wh : List Int} {j : Nat} (h : Inv n L wh j) (h1 : 1 ≤ n) (h8 : n ≤ 8) (x y : Nat) (hx : x < n) (hy : y < n) :
    (wh.getD y 0 < wh.getD x 0 → behindB L x y = true) ∧ (wh.getD x 0 < wh.getD y 0 → behindB L x y = false) := by
  have hl := h.len
  have e : behindB L x y = domL (L.getD x []) (L.getD y []) := by
    unfold behindB
    rw [h.fine h1 h8]
    have tx : threadB L.length (x : Int) = true := by unfold threadB; rw [decide_eq_true (by omega), decide_eq_true (by omega)]; rfl
    have ty : threadB L.length (y : Int) = true := by unfold threadB; rw [decide_eq_true (by omega), decide_eq_true (by omega)]; rfl
    rw [tx, ty, Int.toNat_natCast, Int.toNat_natCast, domI_of (h.row x hx) (h.row y hy) (by omega)]
    rfl
  rw [e]
  exact ⟨h.dom x y hx hy, fun hlt => domL_anti _ _ (h.dom y x hy hx hlt)⟩

theorem Inv.last {n : Nat} {L : List (List Int)} {wh : List Int} {j me : Nat} (h : Inv n L wh j) (h1 : 1 ≤ n) (h8 : n ≤ 8) (hm : me < n) (hd : ∀ t, t < n → t ≠ me → domL (L.getD me []) (L.getD t []) = true) : (if fineBd L then lastP L else -1) = (me : Int) := by
  have hl := h.len
  rw [if_pos (h.fine h1 h8)]
  refine lastP_found (by omega) (fun i hi => ?_) ?_
  · unfold domAll accB
    rw [List.all_eq_false]
    refine ⟨me, List.mem_range.2 (by omega), ?_⟩
    rw [domI_of (h.row i (by omega)) (h.row me hm) (by omega), domL_anti _ _ (hd i (by omega) (by omega))]
    simp; omega
  · unfold domAll accB
    rw [List.all_eq_true]
    intro c hc
    have hc2 : c < n := by have := List.mem_range.1 hc; omega
    by_cases e : c = me
    · simp [e]
    · rw [domI_of (h.row me hm) (h.row c hc2) (by omega), hd c hc2 e]; simp

end Go.Proofs.YtlclijnoablejaaDoor
