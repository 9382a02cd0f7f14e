/-
  A bank of cells, as plain data; what happens to one cell does not show at any other one.
-/
import Derived.Test.YtedkgamecdmjdaaCellP
set_option linter.unusedVariables false
set_option linter.unusedSimpArgs false
namespace Go.Proofs.Ytedkgamecdmjdaa
open Go.RowKit

/-- A bank: the cells to which an access has begun, by their numbers; to which cell each thread's access is under way. -/
structure BS where
  u : List (Int × CS)
  by' : Nat → Bool × Int
def getU : List (Int × CS) → Int → Option CS
  | [], _ => none
  | p :: r, n => if p.1 = n then some p.2 else getU r n
def putU : List (Int × CS) → Int → CS → List (Int × CS)
  | [], n, c => [(n, c)]
  | p :: r, n, c => if p.1 = n then (n, c) :: r else p :: putU r n c
theorem getU_same (n : Int) (c : CS) : ∀ u, getU (putU u n c) n = some c
  | [] => by simp [putU, getU]
  | p :: r => by
    unfold putU
    split
    · simp [getU]
    · rename_i h
      simp [getU, h, getU_same n c r]
theorem getU_other {n m : Int} (h : m ≠ n) (c : CS) : ∀ u, getU (putU u n c) m = getU u m
  | [] => by simp [putU, getU, Ne.symm h]
  | p :: r => by
    unfold putU
    split
    · rename_i e
      simp [getU, e, Ne.symm h]
    · simp only [getU, getU_other h c r]
def bs0 : BS := ⟨[], fun _ => (false, 0)⟩
def BS.busy (s : BS) (t : Int) : Int × Bool := if t < 0 ∨ 8 ≤ t then (0, false) else ((s.by' t.toNat).2, (s.by' t.toNat).1)
def BS.setBy (s : BS) (t : Int) (p : Bool × Int) : BS := { s with by' := fun i => if i = t.toNat then p else s.by' i }
/-- 'er' is the answer where there is no such cell. -/
def BS.begin (many : Int) (er : Int) (mk : Int → CS) (s : BS) (t k cl v : Int) : Int × BS :=
  if ¬ (0 ≤ cl ∧ cl < many) then (er, s)
  else if (s.busy t).2 = true then (12, s)
  else if (((getU s.u cl).getD (mk cl)).begin t k v).1 ≠ 0 then ((((getU s.u cl).getD (mk cl)).begin t k v).1, s)
  else (0, { u := putU s.u cl (((getU s.u cl).getD (mk cl)).begin t k v).2, by' := fun i => if i = t.toNat then (true, cl) else s.by' i })
def BS.endA (mk : Int → CS) (s : BS) (t d : Int) : Int × Int × BS :=
  if (s.busy t).2 = false then (0, 7, s)
  else ((((getU s.u (s.busy t).1).getD (mk 0)).endA t d).1, (((getU s.u (s.busy t).1).getD (mk 0)).endA t d).2.1,
    { u := putU s.u (s.busy t).1 (((getU s.u (s.busy t).1).getD (mk 0)).endA t d).2.2, by' := fun i => if i = t.toNat then (false, 0) else s.by' i })
def BS.value (s : BS) (n : Int) : Int := match getU s.u n with | none => 0 | some c => c.value
/-- Where an access is under way, there is a cell. -/
def BS.Good (s : BS) : Prop := ∀ t, t < 8 → (s.by' t).1 = true → (getU s.u (s.by' t).2).isSome = true
theorem bs0_good : bs0.Good := fun t _ h => by cases h
theorem busy_in {s : BS} {t : Int} (h : (s.busy t).2 = true) : 0 ≤ t ∧ t < 8 ∧ (s.by' t.toNat).1 = true ∧ (s.busy t).1 = (s.by' t.toNat).2 := by
  unfold BS.busy at h ⊢
  split at h
  · cases h
  · rename_i hn
    rw [if_neg hn]
    exact ⟨by omega, by omega, h, rfl⟩
theorem BS.Good.begin {s : BS} (h : s.Good) (many er : Int) (mk : Int → CS) (t k cl v : Int) : (s.begin many er mk t k cl v).2.Good := by
  unfold BS.begin
  split
  · exact h
  split
  · exact h
  split
  · exact h
  intro i hi hon
  simp only at hon ⊢
  by_cases e : i = t.toNat
  · rw [if_pos e, getU_same]; rfl
  · rw [if_neg e] at hon ⊢
    by_cases e2 : (s.by' i).2 = cl
    · rw [e2, getU_same]; rfl
    · rw [getU_other e2]; exact h i hi hon
theorem BS.Good.endA {s : BS} (h : s.Good) (mk : Int → CS) (t d : Int) : (s.endA mk t d).2.2.Good := by
  unfold BS.endA
  split
  · exact h
  intro i hi hon
  simp only at hon ⊢
  by_cases e : i = t.toNat
  · rw [if_pos e] at hon; cases hon
  · rw [if_neg e] at hon ⊢
    by_cases e2 : (s.by' i).2 = (s.busy t).1
    · rw [e2, getU_same]; rfl
    · rw [getU_other e2]; exact h i hi hon

/-- A thread's place in b, by its place in a. -/
def ByR (k : Int) (p q : Bool × Int) : Prop := (p = (true, k) → q = (true, k)) ∧ (p ≠ (true, k) → q = (false, 0))
/-- b had but what happened to the cell k of a. -/
structure Apart (k : Int) (a b : BS) : Prop where
  same : getU a.u k = getU b.u k
  by' : ∀ t, t < 8 → ByR k (a.by' t) (b.by' t)
theorem apart_start (k : Int) : Apart k bs0 bs0 := ⟨rfl, fun t _ => ⟨fun e => (by cases e), fun _ => rfl⟩⟩
theorem Apart.value {k : Int} {a b : BS} (h : Apart k a b) : a.value k = b.value k := by unfold BS.value; rw [h.same]
theorem Apart.busy {k : Int} {a b : BS} (h : Apart k a b) {t : Int} (ha : (a.busy t).2 = true) (hk : (a.busy t).1 = k) : b.busy t = (k, true) := by
  obtain ⟨h1, h2, h3, h4⟩ := busy_in ha
  have e : a.by' t.toNat = (true, k) := by rw [← hk, h4]; exact Prod.ext h3 rfl
  have := (h.by' t.toNat (by omega)).1 e
  unfold BS.busy
  rw [if_neg (by omega), this]
/-- The end of an access to k. -/
theorem Apart.endK {k : Int} {a b : BS} (h : Apart k a b) (mk : Int → CS) {t : Int} (d : Int) (ha : (a.busy t).2 = true) (hk : (a.busy t).1 = k) :
    (a.endA mk t d).1 = (b.endA mk t d).1 ∧ (a.endA mk t d).2.1 = (b.endA mk t d).2.1 ∧ Apart k (a.endA mk t d).2.2 (b.endA mk t d).2.2 := by
  have hb := h.busy ha hk
  unfold BS.endA
  rw [hb, hk, ha, h.same]
  rw [if_neg (by simp), if_neg (by simp)]
  refine ⟨rfl, rfl, ?_, fun i hi => ?_⟩
  · show getU (putU a.u k _) k = getU (putU b.u k _) k
    rw [getU_same, getU_same]
  · show ByR k (if i = t.toNat then (false, 0) else a.by' i) (if i = t.toNat then (false, 0) else b.by' i)
    by_cases e : i = t.toNat
    · rw [if_pos e, if_pos e]; exact ⟨fun e => (by cases e), fun _ => rfl⟩
    · rw [if_neg e, if_neg e]; exact h.by' i hi
/-- The end of an access to another cell, or of none. -/
theorem Apart.endO {k : Int} {a b : BS} (h : Apart k a b) (mk : Int → CS) {t : Int} (d : Int) (hk : ¬ ((a.busy t).2 = true ∧ (a.busy t).1 = k)) : Apart k (a.endA mk t d).2.2 b := by
  unfold BS.endA
  split
  · exact h
  · rename_i hn
    have ha : (a.busy t).2 = true := by simpa using hn
    have hne : k ≠ (a.busy t).1 := fun e => hk ⟨ha, e.symm⟩
    obtain ⟨h1, h2, h3, h4⟩ := busy_in ha
    refine ⟨?_, fun i hi => ?_⟩
    · show getU (putU a.u (a.busy t).1 _) k = _
      rw [getU_other hne]; exact h.same
    · show ByR k (if i = t.toNat then (false, 0) else a.by' i) (b.by' i)
      by_cases e : i = t.toNat
      · subst e
        rw [if_pos rfl]
        exact ⟨fun e => (by cases e), fun _ => (h.by' t.toNat hi).2 (fun e => hne (by rw [h4, e]))⟩
      · rw [if_neg e]; exact h.by' i hi
/-- An access that begins: at k, and at none. -/
theorem Apart.beginK {a b : BS} {k : Int} (h : Apart k a b) (many er : Int) (mk : Int → CS) {t kd v : Int} (ha : (a.begin many er mk t kd k v).1 = 0) (her : er ≠ 0) :
    (b.begin many er mk t kd k v).1 = 0 ∧ Apart k (a.begin many er mk t kd k v).2 (b.begin many er mk t kd k v).2 := by
  have hin : 0 ≤ k ∧ k < many := by
    by_cases hc : 0 ≤ k ∧ k < many
    · exact hc
    · unfold BS.begin at ha; rw [if_pos hc] at ha; exact absurd ha her
  have hab : (a.busy t).2 = false := by
    cases hq : (a.busy t).2
    · rfl
    · unfold BS.begin at ha; rw [if_neg (by simpa using hin), if_pos hq] at ha; cases ha
  have hok : (((getU a.u k).getD (mk k)).begin t kd v).1 = 0 := by
    by_cases hc : (((getU a.u k).getD (mk k)).begin t kd v).1 = 0
    · exact hc
    · unfold BS.begin at ha; rw [if_neg (by simpa using hin), if_neg (by rw [hab]; simp), if_pos hc] at ha; exact absurd ha hc
  have ht : 0 ≤ t ∧ t < 8 := by
    unfold CS.begin at hok
    split at hok
    · cases hok
    · rename_i hn; omega
  have hbb : (b.busy t).2 = false := by
    unfold BS.busy at hab ⊢
    rw [if_neg (by omega)] at hab ⊢
    rw [(h.by' t.toNat (by omega)).2 (fun e => by rw [e] at hab; cases hab)]
  have hok2 : (((getU b.u k).getD (mk k)).begin t kd v).1 = 0 := by rw [← h.same]; exact hok
  have ea : a.begin many er mk t kd k v = (0, { u := putU a.u k (((getU a.u k).getD (mk k)).begin t kd v).2, by' := fun i => if i = t.toNat then (true, k) else a.by' i }) := by
    unfold BS.begin
    rw [if_neg (by simpa using hin), if_neg (by rw [hab]; simp), if_neg (by simpa using hok)]
  have eb : b.begin many er mk t kd k v = (0, { u := putU b.u k (((getU b.u k).getD (mk k)).begin t kd v).2, by' := fun i => if i = t.toNat then (true, k) else b.by' i }) := by
    unfold BS.begin
    rw [if_neg (by simpa using hin), if_neg (by rw [hbb]; simp), if_neg (by simpa using hok2)]
  rw [ea, eb, h.same]
  refine ⟨rfl, ?_, fun i hi => ?_⟩
  · show getU (putU a.u k _) k = getU (putU b.u k _) k
    rw [getU_same, getU_same]
  · show ByR k (if i = t.toNat then (true, k) else a.by' i) (if i = t.toNat then (true, k) else b.by' i)
    by_cases e : i = t.toNat
    · rw [if_pos e, if_pos e]; exact ⟨fun _ => rfl, fun e => absurd rfl e⟩
    · rw [if_neg e, if_neg e]; exact h.by' i hi
theorem Apart.beginO {a b : BS} {k : Int} (h : Apart k a b) (many er : Int) (mk : Int → CS) {t kd cl v : Int} (hc : cl ≠ k ∨ (a.begin many er mk t kd cl v).1 ≠ 0) (her : er ≠ 0) : Apart k (a.begin many er mk t kd cl v).2 b := by
  unfold BS.begin at hc ⊢
  split
  · exact h
  rename_i hin
  split
  · exact h
  rename_i hbz
  split
  · exact h
  rename_i hok
  rw [if_neg hin, if_neg hbz, if_neg hok] at hc
  have hne : cl ≠ k := hc.elim id (fun e => absurd rfl e)
  have hok' : (((getU a.u cl).getD (mk cl)).begin t kd v).1 = 0 := by simpa using hok
  have ht : 0 ≤ t ∧ t < 8 := by
    unfold CS.begin at hok'
    split at hok'
    · cases hok'
    · rename_i hn; omega
  refine ⟨?_, fun i hi => ?_⟩
  · show getU (putU a.u cl _) k = _
    rw [getU_other (Ne.symm hne)]; exact h.same
  · show ByR k (if i = t.toNat then (true, cl) else a.by' i) (b.by' i)
    by_cases e : i = t.toNat
    · subst e
      rw [if_pos rfl]
      refine ⟨fun e => absurd (Prod.mk.inj e).2 hne, fun _ => (h.by' t.toNat hi).2 (fun e => ?_)⟩
      have hq : (a.busy t).2 = true := by unfold BS.busy; rw [if_neg (by omega), e]
      exact hbz hq
    · rw [if_neg e]; exact h.by' i hi

end Go.Proofs.Ytedkgamecdmjdaa
