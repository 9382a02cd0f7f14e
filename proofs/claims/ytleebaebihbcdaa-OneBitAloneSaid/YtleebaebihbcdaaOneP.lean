/-
  The one-bit lock: plain parts.
-/
import Derived.Test.YtleebaebihbcdaaJumps
import Derived.BigRegion
set_option linter.unusedVariables false
set_option linter.unusedSimpArgs false
namespace Go.Proofs.Ytleebaebihbcdaa
open Go.RowKit

/-- Who was read down since the last write: one access more. -/
def dnS (z : Int) (many t : Nat) (x : Int × Int × Int) (d : Nat → Bool) : Nat → Bool :=
  if x.1 = 2 then fun j => decide (j = t) && (x.2.2 == 1) else if 0 ≤ x.2.1 ∧ x.2.1 < many ∧ z = 0 then fun j => d j || decide ((j : Int) = x.2.1) else d
def dnN (ans : List Int) (many t : Nat) (acc : List (Int × Int × Int)) : Nat → Nat → Bool
  | 0 => fun _ => false
  | k + 1 => dnS (ans.getD k 0) many t (acc.getD k (0, 0, 0)) (dnN ans many t acc k)
theorem dnN_append (ans : List Int) (many t : Nat) (acc : List (Int × Int × Int)) (a : Int × Int × Int) : ∀ k, k ≤ acc.length → dnN ans many t (acc ++ [a]) k = dnN ans many t acc k
  | 0, _ => rfl
  | k + 1, h => by
    unfold dnN
    have e : (acc ++ [a]).getD k (0, 0, 0) = acc.getD k (0, 0, 0) := by rw [List.getD_eq_getElem?_getD, List.getElem?_append_left (by omega), ← List.getD_eq_getElem?_getD]
    rw [dnN_append ans many t acc a k (by omega), e]
def dn (many t : Nat) (s : TS) : Nat → Bool := dnN s.ans many t s.acc s.acc.length
theorem dn_asked (many t : Nat) (s : TS) (a : Int × Int × Int) : dn many t (s.asked a) = dnS s.told many t a (dn many t s) := by
  unfold dn TS.asked TS.told
  show dnN s.ans many t (s.acc ++ [a]) (s.acc ++ [a]).length = _
  have e : (s.acc ++ [a]).getD s.acc.length (0, 0, 0) = a := by rw [List.getD_eq_getElem?_getD, List.getElem?_append_right (Nat.le_refl _), Nat.sub_self]; rfl
  rw [List.length_append, List.length_singleton]
  show dnS (s.ans.getD s.acc.length 0) many t ((s.acc ++ [a]).getD s.acc.length (0, 0, 0)) (dnN s.ans many t (s.acc ++ [a]) s.acc.length) = _
  rw [e, dnN_append _ _ _ _ _ _ (Nat.le_refl _)]
/-- All are told down. -/
def AllZ (ans : List Int) (many : Nat) : Prop := (∀ k, ans.getD k 0 = 0) ∧ many ≤ ans.length
/-- The second of the chapter's examples. -/
def ExX (ans : List Int) (many t : Nat) : Prop := ans = [0, 1, 0, 0, 0] ∧ many = 2 ∧ t = 1
/-- At the label. -/
structure OAg (ans : List Int) (many t : Nat) (s : TS) : Prop where
  an : s.ans = ans
  nts : s.nts.length = 1
  z : AllZ ans many → s.acc.length = 0
  x : ExX ans many t → s.acc.length = 0 ∨ s.acc.length = 4
/-- In the first loop, ahead of its j-th round. -/
structure OL1 (ans : List Int) (many t j : Nat) (s : TS) : Prop where
  an : s.ans = ans
  nts : s.nts.length = 1
  me : dn many t s t = true
  dn : ∀ i, i < j → dn many t s i = true
  z : AllZ ans many → s.acc.length = 1 + j
  x : ExX ans many t → j = 0 ∧ (s.acc.length = 1 ∨ s.acc.length = 5)
/-- Waiting for another one. -/
structure OSp (ans : List Int) (many t : Nat) (s : TS) : Prop where
  an : s.ans = ans
  nts : s.nts.length = 1
  z : ¬ AllZ ans many
  x : ExX ans many t → s.acc.length = 3
/-- In the second loop. -/
structure OL2 (ans : List Int) (many t j : Nat) (s : TS) : Prop where
  an : s.ans = ans
  nts : s.nts.length ≤ 2
  dn : ∀ i, i < j → dn many t s i = true
  z : AllZ ans many → s.acc.length = j ∧ (t = 0 → ∀ k, 1 ≤ k → k < s.acc.length → s.acc.getD k (0, 0, 0) = (1, (k : Int), 0))
  x : ¬ ExX ans many t
theorem TS.told_z {ans : List Int} {many : Nat} {s : TS} (h : s.ans = ans) (z : AllZ ans many) : s.told = 0 := by unfold TS.told; rw [h]; exact z.1 _
theorem TS.len_asked (s : TS) (a : Int × Int × Int) : (s.asked a).acc.length = s.acc.length + 1 := by unfold TS.asked; simp
theorem OAg.enter {ans : List Int} {many t : Nat} {s : TS} (h : OAg ans many t s) : OL1 ans many t 0 (s.asked (2, (t : Int), 1)) := by
  refine ⟨h.an, h.nts, ?_, fun i hi => by omega, fun z => by rw [TS.len_asked, h.z z], fun x => ⟨rfl, ?_⟩⟩
  · rw [dn_asked]; unfold dnS; simp
  · rw [TS.len_asked]; have := h.x x; omega
theorem dn_read0 {many t j : Nat} {s : TS} (hj : j < many) (h0 : s.told = 0) (i : Nat) : dn many t (s.asked (1, (j : Int), 0)) i = (dn many t s i || decide (i = j)) := by
  rw [dn_asked]
  unfold dnS
  rw [if_neg (by show ¬ (1 : Int) = 2; decide), if_pos ⟨by show (0 : Int) ≤ (j : Int); omega, by show (j : Int) < many; omega, h0⟩]
  show (dn many t s i || decide ((i : Int) = (j : Int))) = _
  congr 1
  rw [decide_eq_decide]
  omega
theorem dn_read1 {many t j : Nat} {s : TS} (h0 : s.told ≠ 0) : dn many t (s.asked (1, (j : Int), 0)) = dn many t s := by
  rw [dn_asked]
  unfold dnS
  rw [if_neg (by show ¬ (1 : Int) = 2; decide), if_neg (fun h => h0 h.2.2)]
theorem exX_told {ans : List Int} {many t : Nat} {s : TS} (x : ExX ans many t) (h : s.ans = ans) : s.told = [0, 1, 0, 0, 0].getD s.acc.length 0 := by unfold TS.told; rw [h, x.1]
theorem OL1.next {ans : List Int} {many t j : Nat} {s : TS} (h : OL1 ans many t j s) (hj : j < t) (ht : t < many) (hlt : s.acc.length < s.ans.length) (h0 : s.told = 0) : OL1 ans many t (j + 1) (s.asked (1, (j : Int), 0)) := by
  refine ⟨h.an, h.nts, ?_, fun i hi => ?_, fun z => by rw [TS.len_asked, h.z z]; omega, fun x => ?_⟩
  · rw [dn_read0 (by omega) h0, h.me]; rfl
  · rw [dn_read0 (by omega) h0]
    by_cases e : i = j
    · simp [e]
    · rw [h.dn i (by omega)]; rfl
  · exfalso
    have h1 := exX_told x h.an
    have hl : s.ans.length = 5 := by rw [h.an, x.1]; rfl
    rcases (h.x x).2 with h2 | h2
    · rw [h2] at h1; rw [h0] at h1; exact absurd h1 (by decide)
    · omega
theorem OL1.back {ans : List Int} {many t j : Nat} {s : TS} (h : OL1 ans many t j s) (hlt : s.acc.length < s.ans.length) (h0 : s.told ≠ 0) : OSp ans many t ((s.asked (1, (j : Int), 0)).asked (2, (t : Int), 0)) := by
  refine ⟨h.an, h.nts, fun z => h0 (TS.told_z h.an z), fun x => ?_⟩
  have hl : s.ans.length = 5 := by rw [h.an, x.1]; rfl
  rw [TS.len_asked, TS.len_asked]
  have := (h.x x).2
  omega
theorem OSp.again {ans : List Int} {many t j : Nat} {s : TS} (h : OSp ans many t s) (h0 : s.told ≠ 0) : OSp ans many t (s.asked (1, (j : Int), 0)) := by
  refine ⟨h.an, h.nts, h.z, fun x => ?_⟩
  exfalso
  have h1 := exX_told x h.an
  rw [h.x x] at h1
  exact h0 h1
theorem OSp.over {ans : List Int} {many t j : Nat} {s : TS} (h : OSp ans many t s) : OAg ans many t (s.asked (1, (j : Int), 0)) :=
  ⟨h.an, h.nts, fun z => absurd z h.z, fun x => by rw [TS.len_asked, h.x x]; exact .inr rfl⟩
theorem OL1.over {ans : List Int} {many t : Nat} {s : TS} (h : OL1 ans many t t s) (ht : t < many) : OL2 ans many t (t + 1) (s.noted 2) := by
  refine ⟨h.an, by unfold TS.noted; simp [h.nts], fun i hi => ?_, fun z => ⟨by show s.acc.length = t + 1; rw [h.z z]; omega, fun t0 k h1 h2 => ?_⟩, fun x => ?_⟩
  · show Go.Proofs.Ytleebaebihbcdaa.dn many t s i = true
    by_cases e : i = t
    · rw [e]; exact h.me
    · exact h.dn i (by omega)
  · have : (s.noted 2).acc.length = 1 + t := h.z z
    omega
  · have := (h.x x).1
    have := x.2.2
    omega
theorem OL2.next {ans : List Int} {many t j : Nat} {s : TS} (h : OL2 ans many t j s) (hj : j < many) (h0 : s.told = 0) : OL2 ans many t (j + 1) (s.asked (1, (j : Int), 0)) := by
  refine ⟨h.an, h.nts, fun i hi => ?_, fun z => ⟨by rw [TS.len_asked, (h.z z).1], fun t0 k h1 h2 => ?_⟩, h.x⟩
  · rw [dn_read0 hj h0]
    by_cases e : i = j
    · simp [e]
    · rw [h.dn i (by omega)]; rfl
  · rw [TS.len_asked, (h.z z).1] at h2
    unfold TS.asked
    show (s.acc ++ [_]).getD k (0, 0, 0) = _
    rw [List.getD_eq_getElem?_getD]
    by_cases e : k = j
    · subst e
      rw [List.getElem?_append_right (by rw [(h.z z).1]; exact Nat.le_refl _), (h.z z).1, Nat.sub_self]; rfl
    · rw [List.getElem?_append_left (by rw [(h.z z).1]; omega), ← List.getD_eq_getElem?_getD]
      exact (h.z z).2 t0 k h1 (by rw [(h.z z).1]; omega)
theorem OL2.again {ans : List Int} {many t j : Nat} {s : TS} (h : OL2 ans many t j s) (h0 : s.told ≠ 0) : OL2 ans many t j (s.asked (1, (j : Int), 0)) := by
  refine ⟨h.an, h.nts, fun i hi => by rw [dn_read1 h0]; exact h.dn i hi, fun z => absurd (TS.told_z h.an z) h0, h.x⟩
/-- What comes of it. -/
def OneR (ans : List Int) (many t : Nat) (r : Option Int × TS) : Prop :=
  r.2.ans = ans ∧ (r.1 = none → r.2.acc.length = ans.length + 1 ∧ ¬ AllZ ans many) ∧
    (r.1 ≠ none → r.1 = some 0 ∧ r.2.acc.length ≤ ans.length ∧ (∀ j, j < many → dn many t r.2 j = true) ∧ (AllZ ans many → r.2.acc.length = many ∧ (t = 0 → ∀ k, 1 ≤ k → k < r.2.acc.length → r.2.acc.getD k (0, 0, 0) = (1, (k : Int), 0))) ∧ ¬ ExX ans many t)
/-- A call of the tape, with what one knows where it stops. -/
def AsksZ (g B : Nat) (w : World) (s s' : TS) (v : Value) (e : Ending) (w' : World) : Prop :=
  (e = .panicked (stopC g) ∧ Hid (s.acc.length = s.ans.length) ∧ Hid (TapeIs w' g B 2 s') ∧ Hid (TK g B w w')) ∨ (e = .returned v ∧ Hid (s.acc.length < s.ans.length) ∧ Hid (Tape1 w' g B s') ∧ Hid (TK g B w w'))
theorem read_z (g B : Nat) (c : Int) (s : TS) (w : World) (h : Tape1 w g B s) :
    Calls Try.prog 66 #[.pointer (some ⟨g, 0, none⟩), .int .i64 c] w (AsksZ g B w s (s.asked (1, c, 0)) (.int .i64 s.told)) := by
  have hle := h.2
  by_cases hlt : s.acc.length < s.ans.length
  · exact (read_ok g B c s w h hlt).mono fun e w' q => .inr ⟨q.1, Lib.hid hlt, Lib.hid q.2.1, Lib.hid q.2.2⟩
  · exact (read_stop g B c s w h hlt).mono fun e w' q => .inl ⟨q.1, Lib.hid (by omega), Lib.hid q.2.1, Lib.hid q.2.2⟩
theorem write_z (g B : Nat) (c v : Int) (s : TS) (w : World) (h : Tape1 w g B s) :
    Calls Try.prog 65 #[.pointer (some ⟨g, 0, none⟩), .int .i64 c, .int .i64 v] w (AsksZ g B w s (s.asked (2, c, v)) (.tuple #[])) := by
  have hle := h.2
  by_cases hlt : s.acc.length < s.ans.length
  · exact (write_ok g B c v s w h hlt).mono fun e w' q => .inr ⟨q.1, Lib.hid hlt, Lib.hid q.2.1, Lib.hid q.2.2⟩
  · exact (write_stop g B c v s w h hlt).mono fun e w' q => .inl ⟨q.1, Lib.hid (by omega), Lib.hid q.2.1, Lib.hid q.2.2⟩
/-- It stops at an access. -/
theorem OneR.stop {ans : List Int} {many t : Nat} {s : TS} (a : Int × Int × Int) (h : s.ans = ans) (hl : s.acc.length = s.ans.length) (hz : ¬ AllZ ans many) : OneR ans many t (none, s.asked a) :=
  ⟨h, fun _ => ⟨by show (s.asked a).acc.length = _; rw [TS.len_asked, hl, h], hz⟩, fun e => absurd rfl e⟩

set_option maxRecDepth 10000 in
set_option maxHeartbeats 1000000 in
theorem othreads_any (many : Int) (x0 x2 x3 x4 x5 : Int) (w : World) (hm : 1 ≤ many ∧ many ≤ 8) :
    Calls Try.prog 96 #[.agg #[.int .i64 x0, .int .i64 many, .int .i64 x2, .int .i64 x3, .int .i64 x4, .int .i64 x5]] w fun e w' => e = .returned (.int .i64 many) ∧ Up w w' := by
  have hb := heap_alloc_new w (.cells #[.int .i64 x0, .int .i64 many, .int .i64 x2, .int .i64 x3, .int .i64 x4, .int .i64 x5] 68)
  have c1 := cell_of_row _ _ 1 _ _ _ hb
  simp only [List.getElem?_toArray, List.getElem?_cons_zero, List.getElem?_cons_succ] at c1
  have e1 : min (max many 1) 8 = many := by omega
  have HU := Lib.hid (show Up w (w.alloc (.cells #[.int .i64 x0, .int .i64 many, .int .i64 x2, .int .i64 x3, .int .i64 x4, .int .i64 x5] 68)) from (Up.refl w).alloc _)
  have HM := Lib.hid hm
  clear hb
  go_enter Try.func96, Try.ntmps96
  go_wp2_with fail
  all_goals
    go_ret
    refine ⟨?_, HU.out⟩
    refine congrArg (fun z => Ending.returned (Value.int .i64 z)) ?_
    omega

end Go.Proofs.Ytleebaebihbcdaa
