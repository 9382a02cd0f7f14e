/-
  Slices of ints and bytes that came in, opened: more is said than in the text Law.
-/
import Derived.Test.YtedkgamecdmjdaaLaw
import Derived.Test.YtedkgamecdmjdaaApp
namespace Go.Proofs.Ytedkgamecdmjdaa
open Go.ChangeShapes Go.WideShapes Go.ChangeAt Go.RowKit

section
variable {H : Type} {enc : TypeId × Value → H} {P : Program} {w : World}
theorem open_introw2 {t e : TypeId} {v : Value} {d : DataW H} {ps : List MemPlace} {k : IntKind} (ht : P.underlying t = some (.slice e)) (he : P.underlying e = some (.int k)) (hc : P.cellsOf e = 1) {base : Nat}
    (hval : Value.okWide P w .any base t v) (h : DataW.Trod enc P w 0 (fun _ => true) true t v d ps) :
    ∃ (A : Option Addr) (l : List Int) (c : Nat), v = .slice A l.length c ∧ Row w A l.length (fun j => .int k (l.getD j 0)) ∧ l.length ≤ c ∧ c ≤ 9223372036854775807 ∧ (∀ n ∈ l, (Lit.int k n).wf = true) ∧ (A = none → c = 0) ∧
      ((d = .nil ∧ l = [] ∧ c = 0) ∨ ∃ sp : List (DataW H), d = .slice (lits k l) sp ∧ l.length + sp.length = c) := by
  obtain ⟨A, l, c, rfl, hr, h1, h2, h3, h4⟩ := open_introw ht he hc hval h
  refine ⟨A, l, c, rfl, hr, h1, h2, h3, ?_, h4⟩
  intro hA
  subst hA
  obtain ⟨fuel, hf⟩ := h
  rcases open_ints ht he hc hf with ⟨hcs, _⟩ | ⟨a, len', cap', zs, hcs, _⟩
  · simp [Value.cells] at hcs
    exact hcs.2
  · simp [Value.cells] at hcs

theorem u8_wf {n : Int} (h : (Lit.int .u8 n).wf = true) : 0 ≤ n ∧ n ≤ 255 := by simpa [Lit.wf, IntKind.min, IntKind.max, IntKind.signed, IntKind.bits] using h
theorem u32_wf {n : Int} (h : (Lit.int .u32 n).wf = true) : 0 ≤ n ∧ n ≤ 4294967295 := by simpa [Lit.wf, IntKind.min, IntKind.max, IntKind.signed, IntKind.bits] using h
theorem i64_wf {n : Int} (h : (Lit.int .i64 n).wf = true) : -9223372036854775808 ≤ n ∧ n ≤ 9223372036854775807 := by simpa [Lit.wf, IntKind.min, IntKind.max, IntKind.signed, IntKind.bits] using h

theorem open_bytes {t e : TypeId} {v : Value} {d : DataW H} {ps : List MemPlace} (ht : P.underlying t = some (.slice e)) (he : P.underlying e = some (.int .u8)) (hc : P.cellsOf e = 1) {base : Nat}
    (hval : Value.okWide P w .any base t v) (h : DataW.Trod enc P w 0 (fun _ => true) true t v d ps) :
    ∃ (A : Option Addr) (l : List UInt8) (c : Nat), v = .slice A l.length c ∧ Row w A l.length (BVal l) ∧ l.length ≤ c ∧ c ≤ 9223372036854775807 ∧ (A = none → c = 0) := by
  obtain ⟨A, l, c, rfl, hr, h1, h2, h3, h4, _⟩ := open_introw2 ht he hc hval h
  refine ⟨A, l.map (fun n => UInt8.ofNat n.toNat), c, by rw [List.length_map], ?_, by rw [List.length_map]; exact h1, h2, h4⟩
  rw [List.length_map]
  refine hr.congr fun k hk => ?_
  unfold BVal
  rw [List.getD_eq_getElem?_getD, List.getD_eq_getElem?_getD, List.getElem?_map, List.getElem?_eq_getElem hk]
  have := u8_wf (h3 l[k] (List.getElem_mem hk))
  simp only [Option.map_some, Option.getD_some]
  rw [UInt8.toNat_ofNat', Nat.mod_eq_of_lt (by omega)]
  congr 1
  omega
end

end Go.Proofs.Ytedkgamecdmjdaa
