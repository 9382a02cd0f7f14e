/-
  The bakery: the closures; the chapter's example.
-/
import Derived.Test.YtleebaebihbcdaaBakW
import Derived.Test.YtleebaebihbcdaaPlayQ
set_option linter.unusedVariables false
set_option linter.unusedSimpArgs false
namespace Go.Proofs.Ytleebaebihbcdaa
open Go.RowKit

theorem bEnters {F : FuncId} {fn : Func} {c : Code} (hf : Try.prog.funcs[F]? = some fn) (hname : (fn.name == "runtime.NumGoroutine") = false) (hb : fn.body = some c) (args : Array Value) (W : World) : (callFunc F args).run Try.prog W = .ok (.enter F args) W := by
  have h1 : fn.name ≠ "runtime.NumGoroutine" := by simpa using hname
  simp [callFunc, hf, h1, hb, mark]
theorem tpost_both {g B : Nat} {w w' : World} {r : Option Int × TS} {e : Ending} (q : TPost encI g B w r e w') : (∃ v, r.1 = some v ∧ e = .returned (.int .i64 v) ∧ Hid (Tape1 w' g B r.2) ∧ Hid (TK g B w w')) ∨ (r.1 = none ∧ e = .panicked (stopC g) ∧ Hid (TapeIs w' g B 2 r.2) ∧ Hid (TK g B w w')) := by
  obtain ⟨ro, s⟩ := r
  cases ro with
  | some v => exact .inl ⟨v, rfl, q.1.1, Lib.hid q.1.2, Lib.hid q.2⟩
  | none => exact .inr ⟨rfl, q.1.1, Lib.hid q.1.2, Lib.hid q.2⟩
/-- A lock in its box. -/
def LockBox (W : World) (b : Nat) (many room : Int) : Prop := W.heap[b]? = some (.cells #[.int .i64 1, .int .i64 many, .int .i64 0, .int .i64 0, .int .i64 0, .int .i64 room] 68 (0, 0))

set_option maxRecDepth 10000 in
set_option maxHeartbeats 1000000 in
theorem bcl_97 (ans : List Int) (many t : Nat) (room : Int) (b g B : Nat) (W : World) (ht2 : t = 97 - 97) (hm : 1 ≤ many ∧ many ≤ 8) (ht : t < many) (hr : 1 ≤ room ∧ room ≤ 65536) (hans : ∀ x, x ∈ ans → 0 ≤ x ∧ x ≤ 1099511627776) (hlen : many + 2 ≤ ans.length ∨ (many + 1 ≤ ans.length ∧ room < mostU ans many + 1)) (hb : LockBox W b many room) (h : Tape1 W g B ⟨ans, [], [], []⟩) :
    Calls Try.prog 97 #[.pointer (some ⟨g, 0, none⟩), .pointer (some ⟨b, 0, none⟩)] W fun e w' => ∃ r, BakR ans many t room r ∧ TPost encI g B W r e w' := by
  have c0 := cell_of_row _ _ 0 _ _ _ hb
  have c1 := cell_of_row _ _ 1 _ _ _ hb
  have c2 := cell_of_row _ _ 2 _ _ _ hb
  have c3 := cell_of_row _ _ 3 _ _ _ hb
  have c4 := cell_of_row _ _ 4 _ _ _ hb
  have c5 := cell_of_row _ _ 5 _ _ _ hb
  simp only [List.getElem?_toArray, List.getElem?_cons_zero, List.getElem?_cons_succ] at c0 c1 c2 c3 c4 c5
  have HA := Lib.hid (bacquire_any ans many t room g B W hm ht hr hans hlen h)
  subst ht2
  clear h hlen hans hm hr hb
  go_enter Try.func97, Try.ntmps97
  go_wp2_with fail
  refine HA.out.mono ?_
  rintro e w1 ⟨r, hR, q⟩
  have HR := Lib.hid hR
  rcases tpost_both q with ⟨v, hv, rfl, ht, hk⟩ | ⟨hv, rfl, ht, hk⟩
  · have HQ := Lib.hid q
    clear q hR
    go_wp2_with fail
    go_ret
    exact ⟨r, HR.out, HQ.out⟩
  · have HQ := Lib.hid q
    clear q hR
    go_wp2_with fail
    exact ⟨rfl, r, HR.out, HQ.out⟩
set_option maxRecDepth 10000 in
set_option maxHeartbeats 1000000 in
theorem bcl_98 (ans : List Int) (many t : Nat) (room : Int) (b g B : Nat) (W : World) (ht2 : t = 98 - 97) (hm : 1 ≤ many ∧ many ≤ 8) (ht : t < many) (hr : 1 ≤ room ∧ room ≤ 65536) (hans : ∀ x, x ∈ ans → 0 ≤ x ∧ x ≤ 1099511627776) (hlen : many + 2 ≤ ans.length ∨ (many + 1 ≤ ans.length ∧ room < mostU ans many + 1)) (hb : LockBox W b many room) (h : Tape1 W g B ⟨ans, [], [], []⟩) :
    Calls Try.prog 98 #[.pointer (some ⟨g, 0, none⟩), .pointer (some ⟨b, 0, none⟩)] W fun e w' => ∃ r, BakR ans many t room r ∧ TPost encI g B W r e w' := by
  have c0 := cell_of_row _ _ 0 _ _ _ hb
  have c1 := cell_of_row _ _ 1 _ _ _ hb
  have c2 := cell_of_row _ _ 2 _ _ _ hb
  have c3 := cell_of_row _ _ 3 _ _ _ hb
  have c4 := cell_of_row _ _ 4 _ _ _ hb
  have c5 := cell_of_row _ _ 5 _ _ _ hb
  simp only [List.getElem?_toArray, List.getElem?_cons_zero, List.getElem?_cons_succ] at c0 c1 c2 c3 c4 c5
  have HA := Lib.hid (bacquire_any ans many t room g B W hm ht hr hans hlen h)
  subst ht2
  clear h hlen hans hm hr hb
  go_enter Try.func98, Try.ntmps98
  go_wp2_with fail
  refine HA.out.mono ?_
  rintro e w1 ⟨r, hR, q⟩
  have HR := Lib.hid hR
  rcases tpost_both q with ⟨v, hv, rfl, ht, hk⟩ | ⟨hv, rfl, ht, hk⟩
  · have HQ := Lib.hid q
    clear q hR
    go_wp2_with fail
    go_ret
    exact ⟨r, HR.out, HQ.out⟩
  · have HQ := Lib.hid q
    clear q hR
    go_wp2_with fail
    exact ⟨rfl, r, HR.out, HQ.out⟩

end Go.Proofs.Ytleebaebihbcdaa
