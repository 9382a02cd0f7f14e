/-
  What an operation costs, whatever it is answered: plainly.
-/
import Derived.Test.YtpandnodeldbjaaTrompP
set_option linter.unusedVariables false
set_option linter.unusedSimpArgs false
namespace Go.Proofs.Ytpandnodeldbjaa
open Go.RowKit

variable {α β : Type}
/-- At most so many accesses, each of this make. -/
def Op.within (ok : Int × Int × Int → Prop) : Nat → Op α → Prop
  | n, .ret v => True
  | n, .ask a k => ∃ m, n = m + 1 ∧ ok a ∧ ∀ x, (k x).within ok m
  | n, .get i k => ∀ x, (k x).within ok n
  | n, .set i v k => k.within ok n
  | n, .note c k => k.within ok n
  | n, .live k => ∀ b, (k b).within ok n
theorem op_within (ok : Int × Int × Int → Prop) : ∀ (o : Op α) (n : Nat) (s : TS), o.within ok n → s.acc.length + n ≤ s.ans.length →
    ∃ v s' l, o.onT s = (some v, s') ∧ s'.acc = s.acc ++ l ∧ l.length ≤ n ∧ (∀ a ∈ l, ok a) ∧ s'.ans = s.ans
  | .ret v, n, s, h, hl => ⟨v, s, [], rfl, by simp, Nat.zero_le _, by simp, rfl⟩
  | .ask a k, n, s, h, hl => by
    obtain ⟨m, rfl, ha, hk⟩ := h
    have e : (Op.ask a k).onT s = (k s.told).onT (s.asked a) := if_pos (by omega)
    obtain ⟨v, s', l, h1, h2, h3, h4, h5⟩ := op_within ok (k s.told) m (s.asked a) (hk _) (by simp [TS.asked]; omega)
    refine ⟨v, s', a :: l, e.trans h1, by rw [h2]; simp [TS.asked], by simp; omega, ?_, h5⟩
    intro b hb
    rcases List.mem_cons.1 hb with rfl | hb
    · exact ha
    · exact h4 b hb
  | .get i k, n, s, h, hl => op_within ok (k _) n s (h _) hl
  | .set i v k, n, s, h, hl => by
    obtain ⟨e1, e2, e3⟩ := set_len s i v
    obtain ⟨v', s', l, h1, h2, h3, h4, h5⟩ := op_within ok k n (s.set i v) h (by rw [e1, set_ans]; exact hl)
    exact ⟨v', s', l, h1, by rw [h2, e1], h3, h4, by rw [h5, set_ans]⟩
  | .note c k, n, s, h, hl => op_within ok k n (s.noted c) h hl
  | .live k, n, s, h, hl => op_within ok (k true) n s (h true) hl
theorem within_bind (ok : Int × Int × Int → Prop) : ∀ (o : Op α) (f : α → Op β) (n m : Nat), o.within ok n → (∀ v, (f v).within ok m) → (o.bind f).within ok (n + m)
  | .ret v, f, n, m, h, hf => more (f v) (hf v) (by omega)
  | .ask a k, f, n, m, h, hf => by
    obtain ⟨n', rfl, ha, hk⟩ := h
    exact ⟨n' + m, by omega, ha, fun x => within_bind ok (k x) f n' m (hk x) hf⟩
  | .get i k, f, n, m, h, hf => fun x => within_bind ok (k x) f n m (h x) hf
  | .set i v k, f, n, m, h, hf => within_bind ok k f n m h hf
  | .note c k, f, n, m, h, hf => within_bind ok k f n m h hf
  | .live k, f, n, m, h, hf => fun b => within_bind ok (k b) f n m (h b) hf
where more {γ : Type} {ok : Int × Int × Int → Prop} : ∀ (o : Op γ) {n m : Nat}, o.within ok n → n ≤ m → o.within ok m
  | .ret v, n, m, h, hle => trivial
  | .ask a k, n, m, h, hle => by
    obtain ⟨n', rfl, ha, hk⟩ := h
    obtain ⟨m', rfl⟩ : ∃ m', m = m' + 1 := ⟨m - 1, by omega⟩
    exact ⟨m', rfl, ha, fun x => more (k x) (hk x) (by omega)⟩
  | .get i k, n, m, h, hle => fun x => more (k x) (h x) hle
  | .set i v k, n, m, h, hle => more k h hle
  | .note c k, n, m, h, hle => more k h hle
  | .live k, n, m, h, hle => fun b => more (k b) (h b) hle

/-- Tromp's writer writes V and W, and reads R; the reader the other way round. -/
def okW (a : Int × Int × Int) : Prop := (a.1 = 2 ∧ a.2.1 = 10) ∨ (a.1 = 2 ∧ a.2.1 = 11) ∨ (a.1 = 1 ∧ a.2.1 = 12)
def okR (a : Int × Int × Int) : Prop := (a.1 = 2 ∧ a.2.1 = 12) ∨ (a.1 = 1 ∧ a.2.1 = 10) ∨ (a.1 = 1 ∧ a.2.1 = 11)
theorem trW_within (v : Int) : (trW 10 0 v).within okW 3 := by
  intro x
  show Op.within okW 3 (if _ then _ else _)
  split
  · trivial
  · refine ⟨2, rfl, .inl ⟨rfl, rfl⟩, fun _ g => ⟨1, rfl, .inr (.inr ⟨rfl, rfl⟩), fun y => ?_⟩⟩
    show Op.within okW 1 (if _ then _ else _)
    split
    · exact ⟨0, rfl, .inr (.inl ⟨rfl, rfl⟩), fun _ => trivial⟩
    · trivial
theorem trEnd_within (x : Int) : (trEnd 10 0 x).within okR 3 := by
  refine ⟨2, rfl, .inr (.inl ⟨rfl, rfl⟩), fun v => ⟨1, rfl, .inr (.inr ⟨rfl, rfl⟩), fun y z => ?_⟩⟩
  show Op.within okR 1 (if _ then _ else _)
  split
  · exact fun _ => trivial
  · exact ⟨0, rfl, .inr (.inl ⟨rfl, rfl⟩), fun _ => trivial⟩
theorem trTurn_within (y z : Int) (k : Op Int) (hk : k.within okR 3) : (trTurn 10 0 y z k).within okR 4 := by
  unfold trTurn
  split
  · exact within_bind.more k hk (by omega)
  · exact fun g => ⟨3, rfl, .inl ⟨rfl, rfl⟩, fun _ => hk⟩
theorem trR_within : (trR 10 0).within okR 7 := by
  refine ⟨6, rfl, .inr (.inr ⟨rfl, rfl⟩), fun x y => ?_⟩
  show Op.within okR 6 (if _ then _ else _)
  split
  · exact fun _ => trivial
  · exact ⟨5, rfl, .inr (.inl ⟨rfl, rfl⟩), fun x => ⟨4, rfl, .inr (.inr ⟨rfl, rfl⟩), fun y z => trTurn_within y z _ (trEnd_within x)⟩⟩
theorem trR_some (s : TS) (hs : s.acc = []) (h : 7 ≤ s.ans.length) : ∃ v s', (trR 10 0).onT s = (some v, s') ∧ s'.acc.length ≤ 7 ∧ 1 ≤ s'.acc.length ∧ ∀ j, j < s'.acc.length → okR (s'.acc.getD j (0, 0, 0)) := by
  obtain ⟨v, s', l, h1, h2, h3, h4, _⟩ := op_within okR (trR 10 0) 7 s trR_within (by rw [hs]; simpa using h)
  rw [hs, List.nil_append] at h2
  refine ⟨v, s', h1, by rw [h2]; exact h3, ?_, fun j hj => ?_⟩
  · have hw := trR_within
    have e : (trR 10 0).onT s = _ := if_pos (by rw [hs]; simp; omega)
    obtain ⟨m, hm, _, hk⟩ := hw
    obtain rfl : m = 6 := by omega
    obtain ⟨v2, s2, l2, g1, g2, _⟩ := op_within okR _ 6 (s.asked (1, 10 + 1, 0)) (hk s.told) (by simp [TS.asked, hs]; omega)
    rw [e] at h1
    have := h1.symm.trans g1
    simp only [Prod.mk.injEq] at this
    rw [this.2, g2]
    simp [TS.asked]
    omega
  · rw [h2] at hj ⊢
    have : l.getD j (0, 0, 0) = l[j] := by rw [List.getD_eq_getElem?_getD, List.getElem?_eq_getElem hj]; rfl
    rw [this]
    exact h4 _ (List.getElem_mem hj)
theorem trW_some (v : Int) (s : TS) (hs : s.acc = []) (h : 3 ≤ s.ans.length) : ∃ s', ((trW 10 0 v).bind fun _ => Op.ret (0 : Int)).onT s = (some 0, s') ∧ s'.acc.length ≤ 3 ∧ ∀ j, j < s'.acc.length → okW (s'.acc.getD j (0, 0, 0)) := by
  obtain ⟨u, s', l, h1, h2, h3, h4, _⟩ := op_within okW (trW 10 0 v) 3 s (trW_within v) (by rw [hs]; simpa using h)
  rw [hs, List.nil_append] at h2
  refine ⟨s', by rw [onT_bind, h1]; rfl, by rw [h2]; exact h3, fun j hj => ?_⟩
  rw [h2] at hj ⊢
  have : l.getD j (0, 0, 0) = l[j] := by rw [List.getD_eq_getElem?_getD, List.getElem?_eq_getElem hj]; rfl
  rw [this]
  exact h4 _ (List.getElem_mem hj)

end Go.Proofs.Ytpandnodeldbjaa
