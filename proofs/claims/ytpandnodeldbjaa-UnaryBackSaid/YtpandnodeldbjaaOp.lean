/-
  Operations on a tape as plain trees, and what either side makes of them: they meet, once and for all.
-/
import Derived.Test.YtpandnodeldbjaaSim
import Derived.Test.YtpandnodeldbjaaActs
set_option linter.unusedVariables false
set_option linter.unusedSimpArgs false
namespace Go.Proofs.Ytpandnodeldbjaa
open Go.RowKit

inductive Op (α : Type) : Type where
  | ret (v : α) : Op α
  | ask (a : Int × Int × Int) (k : Int → Op α) : Op α
  | get (i : Int) (k : Int → Op α) : Op α
  | set (i v : Int) (k : Op α) : Op α
  | note (c : Int) (k : Op α) : Op α
  | live (k : Bool → Op α) : Op α

variable {α β : Type}
def Op.bind : Op α → (α → Op β) → Op β
  | .ret v, f => f v
  | .ask a k, f => .ask a fun x => (k x).bind f
  | .get i k, f => .get i fun x => (k x).bind f
  | .set i v k, f => .set i v (k.bind f)
  | .note c k, f => .note c (k.bind f)
  | .live k, f => .live fun b => (k b).bind f
def Op.onT : Op α → TS → Option α × TS
  | .ret v, s => (some v, s)
  | .ask a k, s => if s.acc.length < s.ans.length then (k s.told).onT (s.asked a) else (none, s.asked a)
  | .get i k, s => (k (s.get i)).onT s
  | .set i v k, s => k.onT (s.set i v)
  | .note c k, s => k.onT (s.noted c)
  | .live k, s => (k true).onT s
def Op.onR : Op α → RS → α × RS
  | .ret v, r => (v, r)
  | .ask a k, r => (k (rAsk a r).1).onR (rAsk a r).2
  | .get i k, r => (k (r.t.get i)).onR r
  | .set i v k, r => k.onR (rSet i v r)
  | .note c k, r => k.onR (rNote c r)
  | .live k, r => (k (!r.over)).onR r

/-- A bind of what a tape makes of an operation. -/
def andT (x : Option α × TS) (f : α → TS → Option β × TS) : Option β × TS := match x with
  | (some v, s) => f v s
  | (none, s) => (none, s)
theorem onT_bind : ∀ (o : Op α) (f : α → Op β) (s : TS), (o.bind f).onT s = andT (o.onT s) fun v s => (f v).onT s
  | .ret v, f, s => rfl
  | .ask a k, f, s => by
    show (if _ then _ else _) = andT (if _ then _ else _) _
    by_cases h : s.acc.length < s.ans.length
    · rw [if_pos h, if_pos h]; exact onT_bind (k s.told) f _
    · rw [if_neg h, if_neg h]; rfl
  | .get i k, f, s => onT_bind (k (s.get i)) f s
  | .set i v k, f, s => onT_bind k f _
  | .note c k, f, s => onT_bind k f _
  | .live k, f, s => onT_bind (k true) f s
theorem onR_bind : ∀ (o : Op α) (f : α → Op β) (r : RS), (o.bind f).onR r = (f (o.onR r).1).onR (o.onR r).2
  | .ret v, f, r => rfl
  | .ask a k, f, r => onR_bind (k _) f _
  | .get i k, f, r => onR_bind (k _) f _
  | .set i v k, f, r => onR_bind k f _
  | .note c k, f, r => onR_bind k f _
  | .live k, f, r => onR_bind (k _) f _

theorem rAsk_gone (a : Int × Int × Int) {r : RS} (h : r.over = true) : rAsk a r = (0, r) := by unfold rAsk; rw [if_pos h]
theorem rSet_gone (i v : Int) {r : RS} (h : r.over = true) : rSet i v r = r := by unfold rSet; rw [if_pos (by simp [h])]
theorem rNote_gone (c : Int) {r : RS} (h : r.over = true) : rNote c r = r := by unfold rNote; rw [if_pos h]
theorem onR_over : ∀ (o : Op α) (r : RS), r.over = true → (o.onR r).2 = r
  | .ret v, r, h => rfl
  | .ask a k, r, h => by
    show ((k (rAsk a r).1).onR (rAsk a r).2).2 = r
    rw [rAsk_gone a h]; exact onR_over (k 0) r h
  | .get i k, r, h => onR_over (k _) r h
  | .set i v k, r, h => by
    show (k.onR (rSet i v r)).2 = r
    rw [rSet_gone i v h]; exact onR_over k r h
  | .note c k, r, h => by
    show (k.onR (rNote c r)).2 = r
    rw [rNote_gone c h]; exact onR_over k r h
  | .live k, r, h => onR_over (k _) r h

/-- What both sides come to, of any answer. -/
def MeetsA (x : Option α × TS) (y : α × RS) : Prop := match x with
  | (some v, s') => y.1 = v ∧ y.2.over = false ∧ Rel s' y.2.t
  | (none, s') => y.2.over = true ∧ Rel s' y.2.t
theorem op_meets : ∀ (o : Op α) (s : TS) (r : RS), Rel s r.t → r.over = false → MeetsA (o.onT s) (o.onR r)
  | .ret v, s, r, h, ho => ⟨rfl, ho, h⟩
  | .ask a k, s, r, h, ho => by
    show MeetsA (if _ then _ else _) ((k (rAsk a r).1).onR (rAsk a r).2)
    by_cases hlt : s.acc.length < s.ans.length
    · rw [if_pos hlt, rAsk_ok h ho hlt]
      exact op_meets (k s.told) _ _ (h.asked a) rfl
    · rw [if_neg hlt, rAsk_stop h ho hlt]
      have e := onR_over (k 0) ⟨r.t.asked a, true⟩ rfl
      refine ⟨?_, ?_⟩
      · rw [e]
      · rw [e]; exact h.asked a
  | .get i k, s, r, h, ho => by
    show MeetsA ((k (s.get i)).onT s) ((k (r.t.get i)).onR r)
    rw [h.get i]; exact op_meets (k _) s r h ho
  | .set i v k, s, r, h, ho => op_meets k _ _ (h.set ho i v).1 (h.set ho i v).2
  | .note c k, s, r, h, ho => by
    show MeetsA (k.onT (s.noted c)) (k.onR (rNote c r))
    have e : rNote c r = ⟨r.t.noted c, false⟩ := by unfold rNote; rw [if_neg (by simp [ho])]
    rw [e]
    exact op_meets k _ _ (h.noted c) rfl
  | .live k, s, r, h, ho => by
    show MeetsA ((k true).onT s) ((k (!r.over)).onR r)
    rw [ho]; exact op_meets (k true) s r h ho

/-- Accesses, answers and locals behind any operation. -/
theorem op_len : ∀ (o : Op α) (s : TS), s.acc.length ≤ s.ans.length → (o.onT s).2.acc.length ≤ s.ans.length + 1 ∧ (o.onT s).2.ans = s.ans ∧ (o.onT s).2.loc.length ≤ max s.loc.length 32768
  | .ret v, s, h => ⟨Nat.le_succ_of_le h, rfl, Nat.le_max_left _ _⟩
  | .ask a k, s, h => by
    obtain ⟨e1, e2, e3⟩ := asked_len s a
    by_cases hlt : s.acc.length < s.ans.length
    · have e : (Op.ask a k).onT s = (k s.told).onT (s.asked a) := if_pos hlt
      rw [e]
      have := op_len (k s.told) (s.asked a) (by rw [e1]; exact hlt)
      rw [e3] at this
      exact this
    · have e : (Op.ask a k).onT s = (none, s.asked a) := if_neg hlt
      rw [e]
      exact ⟨by rw [e1]; show _ ≤ s.ans.length + 1; omega, rfl, by rw [e3]; exact Nat.le_max_left _ _⟩
  | .get i k, s, h => op_len (k _) s h
  | .set i v k, s, h => by
    obtain ⟨e1, e2, e3⟩ := set_len s i v
    have := op_len k (s.set i v) (by rw [e1, set_ans]; exact h)
    rw [set_ans] at this
    exact ⟨this.1, this.2.1, by have := this.2.2; show (k.onT (s.set i v)).2.loc.length ≤ _; omega⟩
  | .note c k, s, h => op_len k (s.noted c) h
  | .live k, s, h => op_len (k true) s h

/-- At most so many notes, whatever is answered. -/
def Op.few : Nat → Op α → Prop
  | n, .ret v => True
  | n, .ask a k => ∀ x, (k x).few n
  | n, .get i k => ∀ x, (k x).few n
  | n, .set i v k => k.few n
  | n, .note c k => ∃ m, n = m + 1 ∧ k.few m
  | n, .live k => ∀ b, (k b).few n
theorem op_few : ∀ (o : Op α) (n : Nat) (s : TS), o.few n → (o.onT s).2.nts.length ≤ s.nts.length + n
  | .ret v, n, s, h => Nat.le_add_right _ _
  | .ask a k, n, s, h => by
    by_cases hlt : s.acc.length < s.ans.length
    · have e : (Op.ask a k).onT s = (k s.told).onT (s.asked a) := if_pos hlt
      rw [e]; exact op_few (k s.told) n (s.asked a) (h _)
    · have e : (Op.ask a k).onT s = (none, s.asked a) := if_neg hlt
      rw [e]; exact Nat.le_add_right _ _
  | .get i k, n, s, h => op_few (k _) n s (h _)
  | .set i v k, n, s, h => by
    have := op_few k n (s.set i v) h
    rw [set_nts] at this
    exact this
  | .note c k, n, s, h => by
    obtain ⟨m, rfl, h2⟩ := h
    have := op_few k m (s.noted c) h2
    simp only [TS.noted, List.length_append, List.length_singleton] at this
    show (k.onT (s.noted c)).2.nts.length ≤ _
    simp only [TS.noted]
    omega
  | .live k, n, s, h => op_few (k true) n s (h true)
theorem few_bind : ∀ (o : Op α) (f : α → Op β) (n m : Nat), o.few n → (∀ v, (f v).few m) → (o.bind f).few (n + m)
  | .ret v, f, n, m, h, hf => few_more (f v) (hf v) (by omega)
  | .ask a k, f, n, m, h, hf => fun x => few_bind (k x) f n m (h x) hf
  | .get i k, f, n, m, h, hf => fun x => few_bind (k x) f n m (h x) hf
  | .set i v k, f, n, m, h, hf => few_bind k f n m h hf
  | .note c k, f, n, m, h, hf => by
    obtain ⟨n', rfl, h2⟩ := h
    exact ⟨n' + m, by omega, few_bind k f n' m h2 hf⟩
  | .live k, f, n, m, h, hf => fun b => few_bind (k b) f n m (h b) hf
where few_more {γ : Type} : ∀ (o : Op γ) {n m : Nat}, o.few n → n ≤ m → o.few m
  | .ret v, n, m, h, hle => trivial
  | .ask a k, n, m, h, hle => fun x => few_more (k x) (h x) hle
  | .get i k, n, m, h, hle => fun x => few_more (k x) (h x) hle
  | .set i v k, n, m, h, hle => few_more k h hle
  | .note c k, n, m, h, hle => by
    obtain ⟨n', rfl, h2⟩ := h
    obtain ⟨m', rfl⟩ : ∃ m', m = m' + 1 := ⟨m - 1, by omega⟩
    exact ⟨m', rfl, few_more k h2 (by omega)⟩
  | .live k, n, m, h, hle => fun b => few_more (k b) (h b) hle

/-- What a call leaves, by what the tape makes of it. -/
theorem TPost.two {enc : α → Value} {g B : Nat} {w : World} {r : Option α × TS} {e : Ending} {w' : World} (h : TPost enc g B w r e w') :
    (∃ v s', r = (Option.some v, s') ∧ e = .returned (enc v) ∧ Tape1 w' g B s' ∧ TK g B w w') ∨ (∃ s', r = (Option.none, s') ∧ e = .panicked (stopC g) ∧ TapeIs w' g B 2 s' ∧ TK g B w w') := by
  obtain ⟨o, s'⟩ := r
  cases o with
  | some v => exact .inl ⟨v, s', rfl, TPost.of_some rfl h⟩
  | none => exact .inr ⟨s', rfl, TPost.of_none rfl h⟩
theorem TPost.from {enc : α → Value} {g B : Nat} {w0 w : World} {r : Option α × TS} {e : Ending} {w' : World} (h : TPost enc g B w r e w') (k : TK g B w0 w) : TPost enc g B w0 r e w' := ⟨h.1, k.trans h.2⟩

/-- An access: it is told, or the tape is at its end. -/
theorem ask_two (a : Int × Int × Int) (k : Int → Op α) (s : TS) : (s.acc.length < s.ans.length ∧ (Op.ask a k).onT s = (k s.told).onT (s.asked a)) ∨ (¬ s.acc.length < s.ans.length ∧ (Op.ask a k).onT s = (none, s.asked a)) := by
  by_cases h : s.acc.length < s.ans.length
  · exact .inl ⟨h, if_pos h⟩
  · exact .inr ⟨h, if_neg h⟩

/-- A call of a register's function in a longer operation. -/
def encO (f : Int → Value) : Int → Value := f
end Go.Proofs.Ytpandnodeldbjaa
