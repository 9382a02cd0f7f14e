/-
  A scope with several labels that are jumped to; the tape's calls, two ways each; how far a tape is.
-/
import Derived.Test.YtleebaebihbcdaaTapeD
import Derived.ScopeJumps
set_option linter.unusedVariables false
set_option linter.unusedSimpArgs false
namespace Go.Proofs.Ytleebaebihbcdaa
open Go.RowKit

/-- As Q; by a goto to label l: J l. -/
def jumpsTo (J : Nat → Act → World → Prop) (Q : Exit → Act → World → Prop) : Exit → Act → World → Prop
  | .goto l', a, w => J l' a w
  | e, a, w => Q e a w

theorem wp_scope_labels {P : Program} {a : Act} {w : World} {Q : Exit → Act → World → Prop} {c : Code} (J : Nat → Act → World → Prop) (μ : Act → World → Nat)
    (first : c.wp P (jumpsTo J Q) a w)
    (pass : ∀ l a w, J l a w → ∃ rest, findLabel c l = some rest ∧ rest.wp P (jumpsTo (fun l' a' w' => J l' a' w' ∧ μ a' w' < μ a w) Q) a w) : (Code.scope c).wp P Q a w := by
  intro b k cs
  have key : ∀ n l rest a w, μ a w = n → J l a w → findLabel c l = some rest → ∃ e a' w', Q e a' w' ∧ Arrives P (lone (b.at a (.code rest :: .inScope c :: k)) cs w) b k cs e a' w' := by
    intro n
    induction n using Nat.strongRecOn with
    | _ n ih =>
      intro l rest a w hn hJ hf
      obtain ⟨rest', hf', hp⟩ := pass l a w hJ
      rw [hf] at hf'
      obtain rfl : rest = rest' := by simpa using hf'
      obtain ⟨e, a₁, w₁, hq, harr⟩ := hp b (.inScope c :: k) cs
      cases e with
      | normal => exact ⟨.normal, a₁, w₁, hq, Steps.trans harr (.one step_inScope)⟩
      | exit id => exact ⟨.exit id, a₁, w₁, hq, fun k' hk => harr k' (by simp [exitTo, hk])⟩
      | goto l' =>
        obtain ⟨hJ', hlt⟩ := hq
        obtain ⟨rest2, hf2, _⟩ := pass l' a₁ w₁ hJ'
        have hg : gotoIn l' (.inScope c :: k) = some (.code rest2 :: .inScope c :: k) := by simp [gotoIn, hf2]
        obtain ⟨e₂, a₂, w₂, hq₂, harr₂⟩ := ih _ (by omega) l' rest2 a₁ w₁ rfl hJ' hf2
        exact ⟨e₂, a₂, w₂, hq₂, .of_steps (harr _ hg) harr₂⟩
      | ret => exact ⟨_, a₁, w₁, hq, harr⟩
      | panic ch => exact ⟨_, a₁, w₁, hq, harr⟩
      | outgrown => exact ⟨_, a₁, w₁, hq, harr⟩
  obtain ⟨e, a₁, w₁, hq, harr⟩ := first b (.inScope c :: k) cs
  cases e with
  | normal => exact ⟨.normal, a₁, w₁, hq, .head step_scope (Steps.trans harr (.one step_inScope))⟩
  | exit id => exact ⟨.exit id, a₁, w₁, hq, fun k' hk => .head step_scope (harr k' (by simp [exitTo, hk]))⟩
  | goto l' =>
    obtain ⟨rest2, hf2, _⟩ := pass l' a₁ w₁ hq
    have hg : gotoIn l' (.inScope c :: k) = some (.code rest2 :: .inScope c :: k) := by simp [gotoIn, hf2]
    obtain ⟨e₂, a₂, w₂, hq₂, harr₂⟩ := key _ l' rest2 a₁ w₁ rfl hq hf2
    exact ⟨e₂, a₂, w₂, hq₂, .of_steps (.head step_scope (harr _ hg)) harr₂⟩
  | ret => exact ⟨_, a₁, w₁, hq, .of_steps (.one step_scope) harr⟩
  | panic ch => exact ⟨_, a₁, w₁, hq, .of_steps (.one step_scope) harr⟩
  | outgrown => exact ⟨_, a₁, w₁, hq, .of_steps (.one step_scope) harr⟩

def puts (a : Act) : List (Nat × Value) → Act
  | [] => a
  | (n, v) :: r => puts (a.put (some n) v) r
/-- The frame is as it was, but for the slots of S. -/
def Only (a : Act) (S : List Nat) (a' : Act) : Prop := a' = puts a (S.map fun n => (n, a'.tmps.getD n undef))
/-- A scope whose labels are jumped to: I holds of the world at every jump, the slots of S may be otherwise, and a pass from a label lowers μ. -/
theorem wp_scope_frame {P : Program} {a : Act} {w : World} {Q : Exit → Act → World → Prop} {c : Code} (S : List Nat) (I : Nat → World → Prop) (μ : World → Nat)
    (first : ∀ J : Nat → Act → World → Prop, Hid (∀ l a' w', Only a S a' → I l w' → J l a' w') → c.wp P (jumpsTo J Q) a w)
    (pass : ∀ l (f : Nat → Value) w', I l w' → ∃ rest, findLabel c l = some rest ∧ ∀ J : Nat → Act → World → Prop, Hid (∀ l' a' w'', Only a S a' → I l' w'' → μ w'' < μ w' → J l' a' w'') → rest.wp P (jumpsTo J Q) (puts a (S.map fun n => (n, f n))) w') : (Code.scope c).wp P Q a w :=
  wp_scope_labels (fun l a' w' => Only a S a' ∧ I l w') (fun _ w' => μ w') (first _ (Lib.hid fun l a' w' h1 h2 => ⟨h1, h2⟩)) (fun l a' w' ⟨h1, h2⟩ => by
    obtain ⟨rest, hf, hp⟩ := pass l (fun n => a'.tmps.getD n undef) w' h2
    refine ⟨rest, hf, ?_⟩
    rw [h1]
    exact hp _ (Lib.hid fun l' a'' w'' g1 g2 g3 => ⟨⟨g1, g2⟩, g3⟩))

/-- The same, where what holds at a jump speaks of the slots too. -/
theorem wp_scope_frameF {P : Program} {a : Act} {w : World} {Q : Exit → Act → World → Prop} {c : Code} (S : List Nat) (I : Nat → (Nat → Value) → World → Prop) (μ : World → Nat)
    (first : ∀ J : Nat → Act → World → Prop, Hid (∀ l a' w', Only a S a' → I l (fun n => a'.tmps.getD n undef) w' → J l a' w') → c.wp P (jumpsTo J Q) a w)
    (pass : ∀ l (f : Nat → Value) w', I l f w' → ∃ rest, findLabel c l = some rest ∧ ∀ J : Nat → Act → World → Prop, Hid (∀ l' a' w'', Only a S a' → I l' (fun n => a'.tmps.getD n undef) w'' → μ w'' < μ w' → J l' a' w'') → rest.wp P (jumpsTo J Q) (puts a (S.map fun n => (n, f n))) w') : (Code.scope c).wp P Q a w :=
  wp_scope_labels (fun l a' w' => Only a S a' ∧ I l (fun n => a'.tmps.getD n undef) w') (fun _ w' => μ w') (first _ (Lib.hid fun l a' w' h1 h2 => ⟨h1, h2⟩)) (fun l a' w' ⟨h1, h2⟩ => by
    obtain ⟨rest, hf, hp⟩ := pass l (fun n => a'.tmps.getD n undef) w' h2
    refine ⟨rest, hf, ?_⟩
    rw [h1]
    exact hp _ (Lib.hid fun l' a'' w'' g1 g2 g3 => ⟨⟨g1, g2⟩, g3⟩))

/-- How many accesses the tape has asked for. -/
def askedN (g : Nat) (w : World) : Nat := match w.cell? ⟨g, 3, none⟩ with | some (.slice _ n _) => n | _ => 0
theorem askedN_eq {w : World} {g B : Nat} {s : TS} (h : Tape1 w g B s) : askedN g w = s.acc.length := by
  obtain ⟨va, hca, hown⟩ := h.1.acc
  obtain ⟨A, c, rfl, _⟩ := own_form hown
  unfold askedN
  rw [hca]
/-- A call of the tape: it stops the operation, or goes on. -/
def Asks (g B : Nat) (w : World) (s s' : TS) (v : Value) (e : Ending) (w' : World) : Prop :=
  (e = .panicked (stopC g) ∧ Hid (TapeIs w' g B 2 s') ∧ Hid (TK g B w w')) ∨ (e = .returned v ∧ Hid (s.acc.length < s.ans.length) ∧ Hid (Tape1 w' g B s') ∧ Hid (TK g B w w'))
theorem read_two (g B : Nat) (c : Int) (s : TS) (w : World) (h : Tape1 w g B s) :
    Calls Try.prog 66 #[.pointer (some ⟨g, 0, none⟩), .int .i64 c] w (Asks g B w s (s.asked (1, c, 0)) (.int .i64 s.told)) := by
  by_cases hlt : s.acc.length < s.ans.length
  · exact (read_ok g B c s w h hlt).mono fun e w' q => .inr ⟨q.1, Lib.hid hlt, Lib.hid q.2.1, Lib.hid q.2.2⟩
  · exact (read_stop g B c s w h hlt).mono fun e w' q => .inl ⟨q.1, Lib.hid q.2.1, Lib.hid q.2.2⟩
theorem write_two (g B : Nat) (c v : Int) (s : TS) (w : World) (h : Tape1 w g B s) :
    Calls Try.prog 65 #[.pointer (some ⟨g, 0, none⟩), .int .i64 c, .int .i64 v] w (Asks g B w s (s.asked (2, c, v)) (.tuple #[])) := by
  by_cases hlt : s.acc.length < s.ans.length
  · exact (write_ok g B c v s w h hlt).mono fun e w' q => .inr ⟨q.1, Lib.hid hlt, Lib.hid q.2.1, Lib.hid q.2.2⟩
  · exact (write_stop g B c v s w h hlt).mono fun e w' q => .inl ⟨q.1, Lib.hid q.2.1, Lib.hid q.2.2⟩

end Go.Proofs.Ytleebaebihbcdaa
