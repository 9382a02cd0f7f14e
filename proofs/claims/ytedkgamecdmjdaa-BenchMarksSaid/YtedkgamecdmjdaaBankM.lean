/-
  The map of cells.
-/
import Derived.Test.YtedkgamecdmjdaaBankI
import Derived.Maps.OwnSet
import Derived.Maps.OwnOps
import Derived.Test.YtedkgamecdmjdaaCellI
set_option linter.unusedVariables false
set_option linter.unusedSimpArgs false
namespace Go.Proofs.Ytedkgamecdmjdaa
open Go.RowKit

/-- How a pointer to a cell reads: by the cell's block. -/
def ptrR : Value → Option (DataW Unit × List MemPlace)
  | .pointer none => some (.nil, [])
  | .pointer (some ⟨h, 0, none⟩) => some (.lit (.int .i64 h), [])
  | _ => none
def ptrV : Option Nat → Value
  | none => .pointer none
  | some h => .pointer (some ⟨h, 0, none⟩)
def ptrD : Option Nat → DataW Unit
  | none => .nil
  | some h => .lit (.int .i64 h)
theorem ptrR_V (o : Option Nat) : ptrR (ptrV o) = some (ptrD o, []) := by cases o <;> rfl
theorem ptrR_inv {v : Value} {o : Option Nat} {ps : List MemPlace} (h : ptrR v = some (ptrD o, ps)) : v = ptrV o := by
  cases v with
  | pointer p =>
    match p, o with
    | none, none => rfl
    | none, some _ => simp [ptrR, ptrD] at h
    | some ⟨b, 0, none⟩, some q =>
      simp only [ptrR, ptrD, Option.some.injEq, Prod.mk.injEq, DataW.lit.injEq, Lit.int.injEq, true_and] at h
      have : b = q := by omega
      rw [this]; rfl
    | some ⟨b, 0, none⟩, none => simp [ptrR, ptrD] at h
    | some ⟨b, 0, some s⟩, o => simp [ptrR] at h
    | some ⟨b, n + 1, s⟩, o => simp [ptrR] at h
  | _ => simp [ptrR] at h
theorem intLaw : Maps.Keyed Try.prog 3 := Maps.int_keyed Try.underlying3
def kI (q : Int) : Lit := .int .i64 q
def Wf (q : Int) : Prop := (Lit.int .i64 q).wf = true
theorem kI_is {q : Int} (h : Wf q) : keyOf Try.prog 3 (.int .i64 q) = some (kI q) := Maps.keyOf_int_mk Try.underlying3 h
theorem ptrZero (w : World) : (zeroValue 84).run Try.prog w = .ok (.pointer none) w := by kernel_rfl
/-- The map in block m holds, at q, the cell in block F q. -/
def MapB (W : World) (m sz : Nat) (F : Int → Option Nat) : Prop := ∃ D, W.ownsMap Try.prog 3 ptrR m sz D ∧ ∀ q, Wf q → D.atKey (kI q) .nil = ptrD (F q) ∧ Maps.has D (kI q) = (F q).isSome
theorem MapB.look {W : World} {m sz : Nat} {F : Int → Option Nat} (h : MapB W m sz F) {q : Int} (hq : Wf q) : (Instr.lookup 86 (.map (some m)) (.int .i64 q) false).run Try.prog W = .ok (ptrV (F q)) W := by
  obtain ⟨D, hD, hF⟩ := h
  obtain ⟨v, ps, hrun, hv⟩ := hD.lookup intLaw Try.underlying86 (ptrZero W) (ptrR_V none) (kI_is hq)
  rw [show ptrD none = .nil from rfl, (hF q hq).1] at hv
  rw [hrun, ptrR_inv hv]
theorem MapB.lookOk {W : World} {m sz : Nat} {F : Int → Option Nat} (h : MapB W m sz F) {q : Int} (hq : Wf q) : (Instr.lookup 86 (.map (some m)) (.int .i64 q) true).run Try.prog W = .ok (.tuple #[ptrV (F q), .bool (F q).isSome]) W := by
  obtain ⟨D, hD, hF⟩ := h
  obtain ⟨v, ps, hrun, hv⟩ := hD.look_ok intLaw Try.underlying86 (ptrZero W) (ptrR_V none) (kI_is hq)
  rw [show ptrD none = .nil from rfl, (hF q hq).1] at hv
  rw [hrun, ptrR_inv hv, (hF q hq).2]
theorem MapB.up {W W' : World} {m sz : Nat} {F : Int → Option Nat} (h : MapB W m sz F) (e : W'.heap[m]? = W.heap[m]?) : MapB W' m sz F := by
  obtain ⟨D, ⟨es, ck, hh, r⟩, hF⟩ := h
  exact ⟨D, ⟨es, ck, e.trans hh, r⟩, hF⟩

theorem mapB_start {W : World} {m : Nat} (h : W.ownsMap Try.prog 3 ptrR m 0 (.map [])) : MapB W m 0 (fun _ => none) := ⟨_, h, fun q _ => ⟨rfl, rfl⟩⟩
theorem MapB.store {W : World} {m sz : Nat} {F : Int → Option Nat} (h : MapB W m sz F) (hn : sz < maxLen) {q : Int} (hq : Wf q) (b : Nat) : ∃ W', (Instr.mapUpdate 86 (.map (some m)) (.int .i64 q) (.pointer (some ⟨b, 0, none⟩))).run Try.prog W = .ok () W' ∧ MapB W' m (sz + 1) (fun x => if x = q then some b else F x) ∧ W.grownBy W' (some m) := by
  obtain ⟨D, hD, hF⟩ := h
  obtain ⟨W', hrun, h1, h2⟩ := hD.update intLaw Try.underlying86 hn (kI_is hq) (ptrR_V (some b))
  refine ⟨W', hrun, ⟨_, h1, fun x hx => ?_⟩, h2⟩
  by_cases e : x = q
  · subst e
    rw [Maps.atKey_put_same hD.isMap (intLaw.key (kI_is hq)), Maps.has_put_same hD.isMap (intLaw.key (kI_is hq))]
    simp
  · have hne : kI x ≠ kI q := fun e2 => e (by unfold kI at e2; injection e2)
    rw [Maps.atKey_put_other hne, Maps.has_put_other hne]
    simp only [if_neg e]
    exact hF x hx
theorem MapB.isLt {W : World} {m sz : Nat} {F : Int → Option Nat} (h : MapB W m sz F) : m < W.heap.size := by
  obtain ⟨D, hD, _⟩ := h
  exact hD.lt

end Go.Proofs.Ytedkgamecdmjdaa

/-
  Value.
-/
namespace Go.Proofs.Ytedkgamecdmjdaa
open Go.RowKit

set_option maxHeartbeats 400000 in
/-- A nil cell's value. -/
theorem value_nil (w : World) : Calls Try.prog 36 #[.pointer none] w fun e w' => e = .returned (.int .i64 0) ∧ w' = w := by
  go_enter Try.func36, Try.ntmps36
  go_wp2_with fail
  go_ret
  exact ⟨rfl, rfl⟩

set_option maxRecDepth 10000 in
set_option maxHeartbeats 400000 in
theorem bvalue_any (b : Nat) (R : Value) (many : Int) (m sz : Nat) (by' : Nat → Bool × Int) (F : Int → Option Nat) (n x : Int) (w : World) (hn : Wf n) (HB : BankB w b R many m by') (HM : MapB w m sz F)
    (hc : Calls Try.prog 36 #[ptrV (F n)] w fun e w' => e = .returned (.int .i64 x) ∧ w' = w) :
    Calls Try.prog 20 #[.pointer (some ⟨b, 0, none⟩), .int .i64 n] w fun e w' => e = .returned (.int .i64 x) ∧ w' = w := by
  have hlk := HM.look hn
  have k2 := HB.k2
  have HC := Lib.hid hc
  clear hc HM HB
  go_enter Try.func20, Try.ntmps20
  go_wp2_with fail
  refine HC.out.mono ?_
  rintro e w2 ⟨rfl, rfl⟩
  go_wp2_with fail
  go_ret
  exact ⟨rfl, rfl⟩

set_option maxHeartbeats 400000 in
theorem bhas_any (b : Nat) (R : Value) (many : Int) (m : Nat) (by' : Nat → Bool × Int) (n : Int) (w : World) (HB : BankB w b R many m by') :
    Calls Try.prog 42 #[.pointer (some ⟨b, 0, none⟩), .int .i64 n] w fun e w' => e = .returned (.bool (decide (0 ≤ n ∧ n < many))) ∧ w' = w := by
  have k1 := HB.k1
  clear HB
  by_cases h0 : 0 ≤ n
  · by_cases h1 : n < many
    · have he : decide (0 ≤ n ∧ n < many) = true := decide_eq_true ⟨h0, h1⟩
      rw [he]
      clear he
      go_enter Try.func42, Try.ntmps42
      go_wp2_with fail
      go_ret
      exact ⟨rfl, rfl⟩
    · have he : decide (0 ≤ n ∧ n < many) = false := decide_eq_false (fun h => h1 h.2)
      have hd : decide (n < many) = false := decide_eq_false h1
      rw [he]
      clear he h1
      go_enter Try.func42, Try.ntmps42
      go_wp2_with fail
      go_ret
      exact ⟨rfl, rfl⟩
  · have he : decide (0 ≤ n ∧ n < many) = false := decide_eq_false (fun h => h0 h.1)
    have hd : decide (0 ≤ n) = false := decide_eq_false h0
    rw [he]
    clear he
    have h0' : n < 0 := by omega
    clear h0
    go_enter Try.func42, Try.ntmps42
    go_wp2_with fail
    go_ret
    exact ⟨rfl, rfl⟩

end Go.Proofs.Ytedkgamecdmjdaa
