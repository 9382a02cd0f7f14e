/-
  The program's tape and the document's do the same.
-/
import Derived.Test.YtpandnodeldbjaaRefDo
import Derived.Test.YtpandnodeldbjaaSame
set_option linter.unusedVariables false
set_option linter.unusedSimpArgs false
namespace Go.Proofs.Ytpandnodeldbjaa

structure Rel (s t : TS) : Prop where
  ans : s.ans = t.ans
  acc : s.acc = t.acc
  nts : s.nts = t.nts
  loc : ∀ i, s.loc.getD i 0 = t.loc.getD i 0

theorem Rel.asked {s t : TS} (h : Rel s t) (a : Int × Int × Int) : Rel (s.asked a) (t.asked a) := ⟨h.ans, by simp [TS.asked, h.acc], h.nts, h.loc⟩
theorem Rel.noted {s t : TS} (h : Rel s t) (k : Int) : Rel (s.noted k) (t.noted k) := ⟨h.ans, h.acc, by simp [TS.noted, h.nts, h.acc], h.loc⟩
theorem Rel.told {s t : TS} (h : Rel s t) : s.told = t.told := by unfold TS.told; rw [h.ans, h.acc]
theorem getD_ge (l : List Int) (i : Nat) (h : l.length ≤ i) : l.getD i 0 = 0 := by rw [List.getD_eq_getElem?_getD, List.getElem?_eq_none h]; rfl
theorem get_eq (s : TS) (i : Int) : s.get i = if i < 0 then 0 else s.loc.getD i.toNat 0 := by
  unfold TS.get
  by_cases h : i < 0
  · rw [if_pos (.inl h), if_pos h]
  · rw [if_neg h]
    by_cases h2 : (s.loc.length : Int) ≤ i
    · rw [if_pos (.inr h2), getD_ge _ _ (by omega)]
    · rw [if_neg (by omega)]
theorem Rel.get {s t : TS} (h : Rel s t) (i : Int) : s.get i = t.get i := by rw [get_eq, get_eq, h.loc]

theorem getD_set (l : List Int) (p i : Nat) (v : Int) (hp : p < l.length) : (l.set p v).getD i 0 = if i = p then v else l.getD i 0 := by
  rw [List.getD_eq_getElem?_getD, List.getD_eq_getElem?_getD, List.getElem?_set]
  by_cases h : p = i
  · subst h; simp [hp]
  · rw [if_neg h, if_neg (fun e => h e.symm)]
theorem getD_pad (l : List Int) (k i : Nat) : (l ++ List.replicate k 0).getD i 0 = l.getD i 0 := by
  rw [List.getD_eq_getElem?_getD, List.getD_eq_getElem?_getD]
  by_cases h : i < l.length
  · rw [List.getElem?_append_left h]
  · rw [List.getElem?_append_right (by omega), List.getElem?_eq_none (l := l) (by omega)]
    by_cases h2 : i - l.length < k
    · simp [h2]
    · simp [h2]

/-- What a Set does to the locals, of either side. -/
theorem set_loc (s : TS) (p : Nat) (v : Int) (hp : p < 32768) (i : Nat) : (s.set p v).loc.getD i 0 = if i = p then v else s.loc.getD i 0 := by
  unfold TS.set
  rw [if_neg (by omega)]
  by_cases h : (s.loc.length : Int) ≤ p
  · rw [if_pos h]
    by_cases hv : v = 0
    · rw [if_pos hv]
      subst hv
      by_cases hi : i = p
      · subst hi; rw [if_pos rfl, getD_ge _ _ (by omega)]
      · rw [if_neg hi]
    · rw [if_neg hv]
      simp only [Int.toNat_natCast]
      rw [getD_set _ _ _ _ (by simp; omega), getD_pad]
  · rw [if_neg h]
    simp only [Int.toNat_natCast]
    rw [getD_set _ _ _ _ (by omega)]
theorem Rel.set {s : TS} {r : RS} (h : Rel s r.t) (ho : r.over = false) (i v : Int) : Rel (s.set i v) (rSet i v r).t ∧ (rSet i v r).over = false := by
  by_cases hi : i < 0 ∨ 32768 ≤ i
  · have e1 : s.set i v = s := set_out s i v hi
    have e2 : rSet i v r = r := by unfold rSet; rw [if_pos (by omega)]
    rw [e1, e2]; exact ⟨h, ho⟩
  · obtain ⟨p, rfl⟩ : ∃ p : Nat, i = p := ⟨i.toNat, by omega⟩
    have e2 : rSet p v r = ⟨{ r.t with loc := (r.t.loc ++ List.replicate (p + 1 - r.t.loc.length) 0).set p v }, false⟩ := by
      unfold rSet
      rw [if_neg (by simp [ho]; omega), Int.toNat_natCast]
    rw [e2]
    refine ⟨⟨by rw [set_ans]; exact h.ans, by rw [set_acc]; exact h.acc, by rw [set_nts]; exact h.nts, fun j => ?_⟩, rfl⟩
    rw [set_loc s p v (by omega)]
    simp only
    rw [getD_set _ _ _ _ (by simp; omega), getD_pad, h.loc]

/-- An access, on both sides. -/
theorem rAsk_ok {s : TS} {r : RS} (h : Rel s r.t) (ho : r.over = false) (hlt : s.acc.length < s.ans.length) (a : Int × Int × Int) : rAsk a r = (s.told, ⟨r.t.asked a, false⟩) := by
  unfold rAsk
  rw [if_neg (by simp [ho]), if_pos (by rw [← h.acc, ← h.ans]; exact hlt), h.told]
theorem rAsk_stop {s : TS} {r : RS} (h : Rel s r.t) (ho : r.over = false) (hlt : ¬ s.acc.length < s.ans.length) (a : Int × Int × Int) : rAsk a r = (0, ⟨r.t.asked a, true⟩) := by
  unfold rAsk
  rw [if_neg (by simp [ho]), if_neg (by rw [← h.acc, ← h.ans]; exact hlt)]

/-- What both sides come to. -/
def Meets (x : Option Int × TS) (y : Int × RS) : Prop := match x with
  | (some v, s') => y.1 = v ∧ y.2.over = false ∧ Rel s' y.2.t
  | (none, s') => y.2.over = true ∧ Rel s' y.2.t

theorem act_meets (a : Act3) (sum : Int) (s : TS) (r : RS) (h : Rel s r.t) (ho : r.over = false) : Meets (actP a sum s) (ractP a sum r) := by
  unfold actP ractP
  by_cases h0 : a.1 % 6 = 0
  · simp only [if_pos h0]
    by_cases hlt : s.acc.length < s.ans.length
    · rw [if_pos hlt, rAsk_ok h ho hlt]
      exact ⟨rfl, rfl, h.asked _⟩
    · rw [if_neg hlt, rAsk_stop h ho hlt]
      exact ⟨rfl, h.asked _⟩
  · simp only [if_neg h0]
    by_cases h1 : a.1 % 6 = 1
    · simp only [if_pos h1]
      by_cases hlt : s.acc.length < s.ans.length
      · rw [if_pos hlt, rAsk_ok h ho hlt]
        exact ⟨rfl, rfl, h.asked _⟩
      · rw [if_neg hlt, rAsk_stop h ho hlt]
        exact ⟨rfl, h.asked _⟩
    · simp only [if_neg h1]
      by_cases h2 : a.1 % 6 = 2
      · simp only [if_pos h2]
        exact ⟨rfl, (h.set ho _ _).2, (h.set ho _ _).1⟩
      · simp only [if_neg h2]
        by_cases h3 : a.1 % 6 = 3
        · simp only [if_pos h3]
          have e : rNote a.2.1 r = ⟨r.t.noted a.2.1, false⟩ := by unfold rNote; rw [if_neg (by simp [ho])]
          rw [e]
          exact ⟨rfl, rfl, h.noted _⟩
        · simp only [if_neg h3]
          by_cases h4 : a.1 % 6 = 4
          · simp only [if_pos h4]
            rw [← h.get]
            by_cases hlt : s.acc.length < s.ans.length
            · rw [if_pos hlt, rAsk_ok h ho hlt]
              exact ⟨rfl, rfl, h.asked _⟩
            · rw [if_neg hlt, rAsk_stop h ho hlt]
              exact ⟨rfl, h.asked _⟩
          · simp only [if_neg h4]
            by_cases hlt : s.acc.length < s.ans.length
            · rw [if_pos hlt, rAsk_ok h ho hlt]
              have hs := (h.asked (1, a.2.1, 0)).set (r := ⟨r.t.asked (1, a.2.1, 0), false⟩) rfl a.2.2 s.told
              exact ⟨by simp only; rw [hs.1.get], hs.2, hs.1⟩
            · rw [if_neg hlt, rAsk_stop h ho hlt]
              have e : rSet a.2.2 0 ⟨r.t.asked (1, a.2.1, 0), true⟩ = ⟨r.t.asked (1, a.2.1, 0), true⟩ := by unfold rSet; rw [if_pos (.inl rfl)]
              simp only [e]
              exact ⟨rfl, h.asked _⟩

theorem do_meets : ∀ (l : List Act3) (sum : Int) (s : TS) (r : RS), Rel s r.t → r.over = false → Meets (doP l sum s) (rdoP l sum r)
  | [], sum, s, r, h, ho => ⟨rfl, ho, h⟩
  | a :: l, sum, s, r, h, ho => by
    have e : rdoP (a :: l) sum r = rdoP l (ractP a sum r).1 (ractP a sum r).2 := by
      show (if r.over = true then (sum, r) else _) = _
      rw [if_neg (by simp [ho])]
    rw [e]
    have hm := act_meets a sum s r h ho
    have e2 : doP (a :: l) sum s = match actP a sum s with
      | (some x, s') => doP l x s'
      | (none, s') => (none, s') := rfl
    rw [e2]
    generalize actP a sum s = x at hm
    obtain ⟨xo, s1⟩ := x
    cases xo with
    | some v =>
      obtain ⟨hv, h1, h2⟩ := hm
      rw [hv]
      exact do_meets l v s1 _ h2 h1
    | none =>
      obtain ⟨h1, h2⟩ := hm
      rw [rdoP_over _ _ _ h1]
      exact ⟨h1, h2⟩

theorem shortLen_ge (l : List Int) : ∀ j, shortLen l (l.length + j) = shortLen l l.length
  | 0 => rfl
  | j + 1 => by
    have : shortLen l (l.length + j + 1) = shortLen l (l.length + j) := shortLen_succ0 l _ (getD_ge _ _ (by omega))
    rw [← Nat.add_assoc, this, shortLen_ge l j]
theorem shortLen_congr (a b : List Int) (h : ∀ i, a.getD i 0 = b.getD i 0) : ∀ n, shortLen a n = shortLen b n
  | 0 => rfl
  | n + 1 => by
    by_cases h0 : a.getD n 0 = 0
    · rw [shortLen_succ0 a n h0, shortLen_succ0 b n (by rw [← h]; exact h0), shortLen_congr a b h n]
    · rw [shortLen_succ1 a n h0, shortLen_succ1 b n (by rw [← h]; exact h0)]
theorem shortL_congr (a b : List Int) (h : ∀ i, a.getD i 0 = b.getD i 0) : shortL a = shortL b := by
  have h1 : shortLen a a.length = shortLen b b.length := by
    have e1 := shortLen_ge a b.length
    have e2 := shortLen_ge b a.length
    rw [← e1, ← e2, Nat.add_comm b.length, shortLen_congr a b h]
  have ha := shortLen_le a a.length
  have hb := shortLen_le b b.length
  unfold shortL
  rw [h1] at ha ⊢
  generalize shortLen b b.length = m at *
  apply list_ext_getD
  · simp; omega
  · intro j hj
    rw [List.length_take] at hj
    rw [List.getD_eq_getElem?_getD, List.getElem?_take, if_pos (by omega), ← List.getD_eq_getElem?_getD, h, List.getD_eq_getElem?_getD, List.getD_eq_getElem?_getD, List.getElem?_take, if_pos (by omega)]

/-- Both sides' outcomes are the same. -/
theorem meets_same {x : Option Int × TS} {y : Int × RS} (h : Meets x y) :
    x.1.getD 0 = (if y.2.over = true then 0 else y.1) ∧ sameB x.1.isSome (!y.2.over) x.2.acc y.2.t.acc x.2.nts y.2.t.nts (shortL x.2.loc) (shortL y.2.t.loc) = true := by
  obtain ⟨xo, s'⟩ := x
  cases xo with
  | some v =>
    obtain ⟨h0, h1, h2⟩ := h
    refine ⟨by simp [h1, h0], decide_eq_true ⟨by simp [h1], h2.acc, h2.nts, shortL_congr _ _ h2.loc⟩⟩
  | none =>
    obtain ⟨h1, h2⟩ := h
    refine ⟨by simp [h1], decide_eq_true ⟨by simp [h1], h2.acc, h2.nts, shortL_congr _ _ h2.loc⟩⟩

end Go.Proofs.Ytpandnodeldbjaa
