/-
  The steps of a walk along an operation: each call of the tape takes one knot off.
-/
import Derived.Test.YtpandnodeldbjaaOp
import Derived.ScopeJumps
set_option linter.unusedVariables false
set_option linter.unusedSimpArgs false
namespace Go.Proofs.Ytpandnodeldbjaa
open Go.RowKit

variable {α β : Type}
/-- A scope with one label that is jumped to forwards. -/
theorem wp_scope_hop {P : Program} {a : Act} {w : World} {Q : Exit → Act → World → Prop} {c rest : Code} (l : Nat) (hf : findLabel c l = some rest)
    (first : ∀ J : Act → World → Prop, Hid (∀ a w, rest.wp P (Exit.noGoto Q) a w → J a w) → c.wp P (Exit.jump l J Q) a w) : (Code.scope c).wp P Q a w :=
  wp_scope_jumps l (fun a w => rest.wp P (Exit.noGoto Q) a w) (fun _ _ => 0) hf (first _ (Lib.hid fun _ _ h => h)) (fun a w h => wp_mono h (fun e a' w' q => by
    cases e <;> first | exact q | exact q.elim))
/-- A call that goes on, or stops. -/
def Goes (g B : Nat) (W : World) (R : Option α × TS) (enc : β → Value) (k : β → Op α) (e : Ending) (w' : World) : Prop :=
  (∃ s', e = .panicked (stopC g) ∧ Hid (TapeIs w' g B 2 s') ∧ Hid (TK g B W w') ∧ Hid (R = (none, s'))) ∨ (∃ x s', e = .returned (enc x) ∧ Hid (Tape1 w' g B s') ∧ Hid (TK g B W w') ∧ Hid ((k x).onT s' = R))
theorem call_step {g B : Nat} {W : World} {s : TS} {R : Option α × TS} {enc : β → Value} {o : Op β} {k : β → Op α} {f : Nat} {args : Array Value}
    (hc : Calls Try.prog f args W (TPost enc g B W (o.onT s))) (hE : (o.bind k).onT s = R) : Calls Try.prog f args W (Goes g B W R enc k) :=
  hc.mono fun e w' q => by
    rw [onT_bind] at hE
    rcases q.two with ⟨v, s', hr, he, h1, k1⟩ | ⟨s', hr, he, h1, k1⟩
    · rw [hr] at hE
      exact .inr ⟨v, s', he, Lib.hid h1, Lib.hid k1, Lib.hid hE⟩
    · rw [hr] at hE
      exact .inl ⟨s', he, Lib.hid h1, Lib.hid k1, Lib.hid hE.symm⟩
theorem read_step {g B : Nat} {c : Int} {s : TS} {W : World} (h : Tape1 W g B s) {k : Int → Op α} {R : Option α × TS} (hE : (Op.ask (1, c, 0) k).onT s = R) :
    Calls Try.prog 66 #[.pointer (some ⟨g, 0, none⟩), .int .i64 c] W (Goes g B W R encI k) :=
  call_step (o := .ask (1, c, 0) .ret) ((read_any g B c s W h).mono fun e w' q => by
    have e1 : (Op.ask (1, c, 0) Op.ret).onT s = tAsk (1, c, 0) s := by
      show (if _ then _ else _) = _
      unfold tAsk
      split <;> rfl
    rw [e1]; exact q) hE
theorem write_step {g B : Nat} {c v : Int} {s : TS} {W : World} (h : Tape1 W g B s) {k : Unit → Op α} {R : Option α × TS} (hE : (Op.ask (2, c, v) fun _ => k ()).onT s = R) :
    Calls Try.prog 65 #[.pointer (some ⟨g, 0, none⟩), .int .i64 c, .int .i64 v] W (Goes g B W R encU k) := by
  refine call_step (o := .ask (2, c, v) fun _ => .ret ()) (k := k) (s := s) ?_ hE
  have e1 : (Op.ask (2, c, v) fun _ => Op.ret ()).onT s = if s.acc.length < s.ans.length then (some (), s.asked (2, c, v)) else (none, s.asked (2, c, v)) := rfl
  rw [e1]
  by_cases hlt : s.acc.length < s.ans.length
  · rw [if_pos hlt]
    exact (write_ok g B c v s W h hlt).mono fun e w' q => TPost.some rfl q
  · rw [if_neg hlt]
    exact (write_stop g B c v s W h hlt).mono fun e w' q => TPost.none rfl q
/-- A call that always goes on. -/
def Went (g B : Nat) (W : World) (R : Option α × TS) (k : Op α) (e : Ending) (w' : World) : Prop :=
  e = .returned (.tuple #[]) ∧ ∃ s', Hid (Tape1 w' g B s') ∧ Hid (TK g B W w') ∧ Hid (k.onT s' = R)
theorem get_step {g B : Nat} {i : Int} {s : TS} {W : World} (h : Tape1 W g B s) {k : Int → Op α} {R : Option α × TS} (hE : (Op.get i k).onT s = R) :
    Calls Try.prog 68 #[.pointer (some ⟨g, 0, none⟩), .int .i64 i] W fun e w' => ∃ x, e = .returned (.int .i64 x) ∧ w' = W ∧ Hid ((k x).onT s = R) :=
  (get_any g B i s W h).mono fun e w' q => ⟨_, q.1, q.2, Lib.hid hE⟩
theorem set_step {g B : Nat} {i v : Int} {s : TS} {W : World} (h : Tape1 W g B s) {k : Op α} {R : Option α × TS} (hE : (Op.set i v k).onT s = R) :
    Calls Try.prog 64 #[.pointer (some ⟨g, 0, none⟩), .int .i64 i, .int .i64 v] W (Went g B W R k) :=
  (set_any g B i v s W h).mono fun e w' q => ⟨q.1, _, Lib.hid q.2.1, Lib.hid q.2.2, Lib.hid hE⟩
theorem note_step {g B : Nat} {c : Int} {s : TS} {W : World} (h : Tape1 W g B s) (hb : s.nts.length < 1000000) {k : Op α} {R : Option α × TS} (hE : (Op.note c k).onT s = R) :
    Calls Try.prog 63 #[.pointer (some ⟨g, 0, none⟩), .int .i64 c] W fun e w' => e = .returned (.tuple #[]) ∧ Hid (Tape1 w' g B (s.noted c)) ∧ Hid (TK g B W w') ∧ Hid (k.onT (s.noted c) = R) :=
  (note_any g B c s W h hb).mono fun e w' q => ⟨q.1, Lib.hid q.2.1, Lib.hid q.2.2, Lib.hid hE⟩
theorem if_onT {c : Prop} [Decidable c] {a b : Op α} {s : TS} {R : Option α × TS} (hc : c) (hE : (if c then a else b : Op α).onT s = R) : a.onT s = R := by rw [if_pos hc] at hE; exact hE
theorem else_onT {c : Prop} [Decidable c] {a b : Op α} {s : TS} {R : Option α × TS} (hc : ¬ c) (hE : (if c then a else b : Op α).onT s = R) : b.onT s = R := by rw [if_neg hc] at hE; exact hE

theorem eq_onT {x y : Int} {a b : Op α} {s : TS} {R : Option α × TS} (hE : Hid ((if x = y then a else b : Op α).onT s = R)) : (x = y ∧ Hid (a.onT s = R)) ∨ ((x == y) = false ∧ Hid (b.onT s = R)) := by
  by_cases h : x = y
  · exact .inl ⟨h, Lib.hid (if_onT h hE.out)⟩
  · exact .inr ⟨by rw [beq_eq_false_iff_ne]; exact h, Lib.hid (else_onT h hE.out)⟩

/-- The document's side. -/
theorem rcall_step {h B : Nat} {W : World} {r : RS} {R : α × RS} {enc : β → Value} {o : Op β} {k : β → Op α} {f : Nat} {args : Array Value}
    (hc : Calls Try.prog f args W (RPost (enc (o.onR r).1) h B W (o.onR r).2)) (hE : (o.bind k).onR r = R) : Calls Try.prog f args W fun e w' => ∃ x r', e = .returned (enc x) ∧ Hid (RefIs w' h B r') ∧ Hid (TK h B W w') ∧ Hid ((k x).onR r' = R) :=
  hc.mono fun e w' q => ⟨_, _, q.1, Lib.hid q.2.1, Lib.hid q.2.2, Lib.hid (by rw [← hE, onR_bind])⟩
theorem rread_step {h B : Nat} {c : Int} {r : RS} {W : World} (H : RefIs W h B r) {k : Int → Op α} {R : α × RS} (hE : (Op.ask (1, c, 0) k).onR r = R) :
    Calls Try.prog 72 #[.pointer (some ⟨h, 0, none⟩), .int .i64 c] W fun e w' => ∃ x r', e = .returned (.int .i64 x) ∧ Hid (RefIs w' h B r') ∧ Hid (TK h B W w') ∧ Hid ((k x).onR r' = R) :=
  (rread_any h B c r W H).mono fun e w' q => ⟨_, _, q.1, Lib.hid q.2.1, Lib.hid q.2.2, Lib.hid hE⟩
theorem rwrite_step {h B : Nat} {c v : Int} {r : RS} {W : World} (H : RefIs W h B r) {k : Unit → Op α} {R : α × RS} (hE : (Op.ask (2, c, v) fun _ => k ()).onR r = R) :
    Calls Try.prog 73 #[.pointer (some ⟨h, 0, none⟩), .int .i64 c, .int .i64 v] W fun e w' => e = .returned (.tuple #[]) ∧ ∃ r', Hid (RefIs w' h B r') ∧ Hid (TK h B W w') ∧ Hid ((k ()).onR r' = R) :=
  (rwrite_any h B c v r W H).mono fun e w' q => ⟨q.1, _, Lib.hid q.2.1, Lib.hid q.2.2, Lib.hid hE⟩
theorem rget_step {h B : Nat} {i : Int} {r : RS} {W : World} (H : RefIs W h B r) {k : Int → Op α} {R : α × RS} (hE : (Op.get i k).onR r = R) :
    Calls Try.prog 76 #[.pointer (some ⟨h, 0, none⟩), .int .i64 i] W fun e w' => ∃ x, e = .returned (.int .i64 x) ∧ w' = W ∧ Hid ((k x).onR r = R) :=
  (rget_any h B i r W H).mono fun e w' q => ⟨_, q.1, q.2, Lib.hid hE⟩
theorem rset_step {h B : Nat} {i v : Int} {r : RS} {W : World} (H : RefIs W h B r) {k : Op α} {R : α × RS} (hE : (Op.set i v k).onR r = R) :
    Calls Try.prog 74 #[.pointer (some ⟨h, 0, none⟩), .int .i64 i, .int .i64 v] W fun e w' => e = .returned (.tuple #[]) ∧ ∃ r', Hid (RefIs w' h B r') ∧ Hid (TK h B W w') ∧ Hid (k.onR r' = R) :=
  (rset_any h B i v r W H).mono fun e w' q => ⟨q.1, _, Lib.hid q.2.1, Lib.hid q.2.2, Lib.hid hE⟩
theorem if_onR {c : Prop} [Decidable c] {a b : Op α} {r : RS} {R : α × RS} (hc : c) (hE : (if c then a else b : Op α).onR r = R) : a.onR r = R := by rw [if_pos hc] at hE; exact hE
theorem else_onR {c : Prop} [Decidable c] {a b : Op α} {r : RS} {R : α × RS} (hc : ¬ c) (hE : (if c then a else b : Op α).onR r = R) : b.onR r = R := by rw [if_neg hc] at hE; exact hE

theorem eq_onR {x y : Int} {a b : Op α} {r : RS} {R : α × RS} (hE : Hid ((if x = y then a else b : Op α).onR r = R)) : (x = y ∧ Hid (a.onR r = R)) ∨ ((x == y) = false ∧ Hid (b.onR r = R)) := by
  by_cases h : x = y
  · exact .inl ⟨h, Lib.hid (if_onR h hE.out)⟩
  · exact .inr ⟨by rw [beq_eq_false_iff_ne]; exact h, Lib.hid (else_onR h hE.out)⟩

end Go.Proofs.Ytpandnodeldbjaa
