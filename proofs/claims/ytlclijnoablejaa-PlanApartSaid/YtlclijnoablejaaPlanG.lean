/-
  The chapter's example: alive of chapter 18.
-/
import Derived.Test.YtlclijnoablejaaPlanD
import Derived.Test.YtlclijnoablejaaPlanE
set_option linter.unusedVariables false
set_option linter.unusedSimpArgs false
namespace Go.Proofs.Ytlclijnoablejaa
open Go.RowKit

set_option maxRecDepth 10000 in
theorem lay_none (w : World) : Calls Try.prog 7 #[.slice none 0 0, .int .i64 0, .int .i64 1, .int .i64 0, .int .i64 0] w fun e w' => e = .returned (.tuple #[.slice none 0 0, .int .i64 1]) ∧ w' = w := by
  go_enter Try.func7, Try.ntmps7
  go_wp2_with fail
  go_ret2
  exact ⟨rfl, rfl⟩
def wants18 : List (Int × Int) := [(0, 1), (-1, 3)]
def regs18 : List Rg := [⟨1, 5, 0, 2, 0, -1, 1⟩, ⟨1, 6, 0, 2, -1, -1, 3⟩]
theorem regs18_is : regsOf 2 false 5 0 wants18 = regs18 := by rfl
theorem fine18 : WriterOk 2 wants18 ∧ AllFine (regsOf 2 false 5 0 wants18) wants18.length := by
  refine ⟨fun j hj => ?_, fun k hk => ?_⟩
  · have : j = 0 ∨ j = 1 := by unfold wants18 at hj; simp at hj; omega
    rcases this with rfl | rfl <;> decide
  · have : k = 0 ∨ k = 1 := by unfold wants18 at hk; simp at hk; omega
    rw [regs18_is]
    rcases this with rfl | rfl <;> decide
theorem lay18 (w : World) (A : Option Addr) (h : PairRow w A wants18) :
    Calls Try.prog 7 #[.slice A 2 2, .int .i64 2, .int .i64 1, .int .i64 5, .int .i64 0] w fun e w' => ∃ b c2, e = .returned (.tuple #[.slice (some ⟨b, 0, none⟩) 2 c2, .int .i64 0]) ∧ Up w w' ∧ RegRow w' (some ⟨b, 0, none⟩) regs18 := by
  refine (lay_any 2 false 5 0 wants18 A 2 w (by decide) (by decide) (by decide) (by decide) h).mono ?_
  rintro e w' ⟨v, er, he, hu, ⟨h1, h2, h3⟩ | ⟨h1, h2, -⟩⟩
  · exact absurd fine18 h3
  · obtain ⟨A2, c2, hv, hrow⟩ := h2.row
    rw [regs18_is] at hv hrow
    obtain ⟨b, rfl, -⟩ := hrow 0 (by decide)
    exact ⟨b, c2, by rw [he, hv, h1]; rfl, hu, hrow⟩
theorem pair18 (w : World) : PairRow (w.alloc (.cells #[.int .i64 0, .int .i64 1, .int .i64 (-1), .int .i64 3] 33)) (some ⟨w.heap.size, 0, none⟩) wants18 := by
  intro k hk
  have hh := heap_alloc_new w (.cells #[.int .i64 0, .int .i64 1, .int .i64 (-1), .int .i64 3] 33)
  have e0 := cell_of_row _ _ 0 _ _ _ hh
  have e1 := cell_of_row _ _ 1 _ _ _ hh
  have e2 := cell_of_row _ _ 2 _ _ _ hh
  have e3 := cell_of_row _ _ 3 _ _ _ hh
  have : k = 0 ∨ k = 1 := by unfold wants18 at hk; simp at hk; omega
  rcases this with rfl | rfl
  · exact ⟨_, 0, rfl, e0, e1⟩
  · exact ⟨_, 0, rfl, e2, e3⟩
theorem cells18 : sumF cellsN regs18 regs18.length = 2 ∧ sumF localsN regs18 regs18.length = 0 := by decide

set_option maxRecDepth 10000 in
set_option maxHeartbeats 2000000 in
theorem alive18_any (w : World) : Calls Try.prog 6 #[] w fun e w' => e = .returned (.bool true) ∧ Up w w' := by
  have HP := Lib.hid (pair18 w)
  have HL := Lib.hid (fun W A h => lay18 W A h)
  have HSZ := Lib.hid (fun W A c (h : RegRow W A regs18) => size_any A c regs18 W h (by intro r hr; unfold regs18 at hr; simp at hr; rcases hr with rfl | rfl <;> exact ⟨by decide, Or.inl rfl⟩) (by decide))
  have HST := Lib.hid (fun W A c (h : RegRow W A regs18) => pstrips_two regs18 A c W rfl h (by intro r hr; unfold regs18 at hr; simp at hr; rcases hr with rfl | rfl <;> rfl) join_two)
  rw [cells18.1, cells18.2] at HSZ
  have HU := Lib.hid ((Up.refl w).alloc (.cells #[.int .i64 0, .int .i64 1, .int .i64 (-1), .int .i64 3] 33))
  go_enter Try.func6, Try.ntmps6
  go_wp2_with fail
  refine (HL.out _ _ HP.out).mono ?_
  rintro e w2 ⟨b, c2, rfl, hu2, hr2⟩
  have HR2 := Lib.hid hr2
  have HU2 := Lib.hid (HU.out.trans hu2)
  clear hu2 hr2
  go_wp2_with fail
  refine (lay_none _).mono ?_
  rintro e w3 ⟨rfl, rfl⟩
  go_wp2_with fail
  refine (HSZ.out _ _ _ HR2.out).mono ?_
  rintro e w4 ⟨rfl, hu4⟩
  have HU4 := Lib.hid (HU2.out.trans hu4)
  have HR4 := Lib.hid (HR2.out.up hu4)
  obtain ⟨b', hb', x0, x1, x2, x3, x4, x5, x6⟩ := HR4.out 0 (by decide)
  obtain rfl : b = b' := by simpa using hb'
  obtain ⟨b'', hb'', y0, y1, y2, y3, y4, y5, y6⟩ := HR4.out 1 (by decide)
  obtain rfl : b = b'' := by simpa using hb''
  clear hu4 hb' hb''
  simp only [regs18, Nat.zero_mul, Nat.one_mul, Nat.zero_add, List.getD_cons_zero, List.getD_cons_succ] at x0 x1 x2 x3 x4 x5 x6 y0 y1 y2 y3 y4 y5 y6
  go_wp2_with fail
  refine (HST.out _ _ _ HR4.out).mono ?_
  rintro e w5 ⟨B5, c5, rfl, hu5⟩
  have HU5 := Lib.hid (HU4.out.trans hu5)
  clear hu5
  go_wp2_with fail
  go_ret
  exact ⟨rfl, HU5.out⟩

end Go.Proofs.Ytlclijnoablejaa
