/-
  The chapter's example: steady.
-/
import Derived.Test.YtpandnodeldbjaaSteadyC
set_option linter.unusedVariables false
set_option linter.unusedSimpArgs false
namespace Go.Proofs.Ytpandnodeldbjaa
open Go.RowKit

theorem strips11 (w : World) : Calls Try.prog 78 #[] w fun e w' => e = .returned (.slice (some ⟨w.heap.size, 0, none⟩) 1 1) ∧ Up w w' := by
  go_enter Try.func78, Try.ntmps78
  go_wp2_with fail
  go_ret
  exact ⟨rfl, (Up.refl w).alloc _⟩
theorem locals11 (w : World) : Calls Try.prog 79 #[] w fun e w' => e = .returned (.int .i64 1) ∧ w' = w := by
  go_enter Try.func79, Try.ntmps79
  go_wp2_with fail
  go_ret
  exact ⟨rfl, rfl⟩
theorem eqAcc_same (a0 a1 a2 : Int) (W : World) : (binOp .eql 45 (.agg #[.int .i64 a0, .int .i64 a1, .int .i64 a2]) (.agg #[.int .i64 a0, .int .i64 a1, .int .i64 a2])).run Try.prog W = .ok (.bool true) W := by
  simp [go_sem]

theorem reg_load {w : World} {q : Nat} {k b lo n wr rd tp : Int} (hb : w.heap[q]? = some (.cells (regC k b lo n wr rd tp) 50 (0, 0))) :
    w.cell? ⟨q, 0, none⟩ = some (.int .i64 k) ∧ w.cell? ⟨q, 1, none⟩ = some (.int .i64 b) ∧ w.cell? ⟨q, 2, none⟩ = some (.int .i64 lo) ∧ w.cell? ⟨q, 3, none⟩ = some (.int .i64 n) ∧ w.cell? ⟨q, 4, none⟩ = some (.int .i64 wr) ∧ w.cell? ⟨q, 5, none⟩ = some (.int .i64 rd) ∧ w.cell? ⟨q, 6, none⟩ = some (.int .i64 tp) :=
  ⟨cell_of_row w q 0 _ _ _ hb, cell_of_row w q 1 _ _ _ hb, cell_of_row w q 2 _ _ _ hb, cell_of_row w q 3 _ _ _ hb, cell_of_row w q 4 _ _ _ hb, cell_of_row w q 5 _ _ _ hb, cell_of_row w q 6 _ _ _ hb⟩

set_option maxRecDepth 10000 in
theorem al11 (W : World) (g B q : Nat) (hb : W.heap[q]? = some (.cells (regC 2 3 2 0 0 0 0) 50 (0, 0))) (hq : q < g) (h : Tape1 W g B ⟨[0, 1], [], [], []⟩) :
    Calls Try.prog 77 #[.pointer (some ⟨g, 0, none⟩), .pointer (some ⟨q, 0, none⟩)] W (TPost encI g B W (some 1, ⟨[0, 1], [0, 0, 1], [(2, 3, 1), (1, 3, 0)], []⟩)) := by
  have s1 : stW 3 2 1 ⟨[0, 1], [], [], []⟩ = (some (), ⟨[0, 1], [0, 0, 1], [(2, 3, 1)], []⟩) := rfl
  have s2 : stW 3 2 9 ⟨[0, 1], [0, 0, 1], [(2, 3, 1)], []⟩ = (some (), ⟨[0, 1], [0, 0, 1], [(2, 3, 1)], []⟩) := rfl
  have s3 : stR 3 ⟨[0, 1], [0, 0, 1], [(2, 3, 1)], []⟩ = (some 1, ⟨[0, 1], [0, 0, 1], [(2, 3, 1), (1, 3, 0)], []⟩) := rfl
  have HKB := Lib.hid (fun (w' : World) (k : TK g B W w') => (k.block q (Array.getElem?_eq_some_iff.1 hb).1 (by omega) (Far.low (by have := h.1.gB; omega))).trans hb)
  have HC1 := Lib.hid (fun (w : World) (h' : Tape1 w g B ⟨[0, 1], [], [], []⟩) => show Calls Try.prog 30 #[.pointer (some ⟨g, 0, none⟩), .agg #[.int .i64 2, .int .i64 3, .int .i64 2, .int .i64 0, .int .i64 0, .int .i64 0, .int .i64 0], .int .i64 1] w fun e w' => e = .returned (.tuple #[]) ∧ Tape1 w' g B ⟨[0, 1], [0, 0, 1], [(2, 3, 1)], []⟩ ∧ TK g B w w' from
    (steadyW_any 2 3 2 0 0 0 0 1 g B _ w h').mono fun e w' t => TPost.of_some s1 t)
  have HC2 := Lib.hid (fun (w : World) (h' : Tape1 w g B ⟨[0, 1], [0, 0, 1], [(2, 3, 1)], []⟩) => show Calls Try.prog 30 #[.pointer (some ⟨g, 0, none⟩), .agg #[.int .i64 2, .int .i64 3, .int .i64 2, .int .i64 0, .int .i64 0, .int .i64 0, .int .i64 0], .int .i64 9] w fun e w' => e = .returned (.tuple #[]) ∧ Tape1 w' g B ⟨[0, 1], [0, 0, 1], [(2, 3, 1)], []⟩ ∧ TK g B w w' from
    (steadyW_any 2 3 2 0 0 0 0 9 g B _ w h').mono fun e w' t => TPost.of_some s2 t)
  have HC3 := Lib.hid (fun (w : World) (h' : Tape1 w g B ⟨[0, 1], [0, 0, 1], [(2, 3, 1)], []⟩) => show Calls Try.prog 29 #[.pointer (some ⟨g, 0, none⟩), .agg #[.int .i64 2, .int .i64 3, .int .i64 2, .int .i64 0, .int .i64 0, .int .i64 0, .int .i64 0]] w fun e w' => e = .returned (.int .i64 1) ∧ Tape1 w' g B ⟨[0, 1], [0, 0, 1], [(2, 3, 1), (1, 3, 0)], []⟩ ∧ TK g B w w' from
    (steadyR_any 2 3 2 0 0 0 0 g B _ w h').mono fun e w' t => TPost.of_some s3 t)
  have H0 := Lib.hid h
  obtain ⟨a0, a1, a2, a3, a4, a5, a6⟩ := reg_load hb
  clear h hb s1 s2 s3
  go_enter Try.func77, Try.ntmps77
  go_wp2_with fail
  refine (HC1.out _ H0.out).mono ?_
  rintro e w1 ⟨rfl, h1, k1⟩
  have H1 := Lib.hid h1
  have K1 := Lib.hid k1
  obtain ⟨b0, b1, b2, b3, b4, b5, b6⟩ := reg_load (HKB.out w1 k1)
  clear h1 k1 a0 a1 a2 a3 a4 a5 a6 HC1 H0
  go_wp2_with fail
  refine (HC2.out _ H1.out).mono ?_
  rintro e w2 ⟨rfl, h2, k2⟩
  have H2 := Lib.hid h2
  have K2 := Lib.hid (K1.out.trans k2)
  obtain ⟨a0, a1, a2, a3, a4, a5, a6⟩ := reg_load (HKB.out w2 K2.out)
  clear h2 k2 b0 b1 b2 b3 b4 b5 b6 HC2 H1 K1
  go_wp2_with fail
  refine (HC3.out _ H2.out).mono ?_
  rintro e w3 ⟨rfl, h3, k3⟩
  have H3 := Lib.hid h3
  have K3 := Lib.hid (K2.out.trans k3)
  clear h3 k3 a0 a1 a2 a3 a4 a5 a6 HC3 H2 K2
  go_wp2_with fail
  go_ret
  exact ⟨⟨rfl, H3.out⟩, K3.out⟩

set_option maxRecDepth 10000 in
set_option maxHeartbeats 1000000 in
theorem alive11_any (w : World) : Calls Try.prog 27 #[] w fun e w' => e = .returned (.bool true) ∧ Up w w' := by
  have hmf : ∀ (fn : Fn) (first cap : Array Value) (w : World), (Instr.makeFunc fn first cap).run Try.prog w = .ok (.func fn first cap) w := fun _ _ _ _ => rfl
  have HP1 := Lib.hid (fun (W : World) (q : Nat) (hb : W.heap[q]? = some (.cells (regC 2 3 2 0 0 0 0) 50 (0, 0))) (A1 : Option Addr) (c1 : Nat) (hr : Row W A1 2 (IVal [0, 1])) =>
    show Calls Try.prog 15 #[.func (.func 77) #[] #[.pointer (some ⟨q, 0, none⟩)], .slice none 0 0, .slice A1 2 c1] W fun e w' => ∃ ov, e = .returned (.tuple #[.int .i64 1, ov]) ∧ OutIs w' ov true ⟨[0, 1], [0, 0, 1], [(2, 3, 1), (1, 3, 0)], []⟩ ∧ Up W w' from
    playI 77 #[.pointer (some ⟨q, 0, none⟩)] (fun _ => (some 1, ⟨[0, 1], [0, 0, 1], [(2, 3, 1), (1, 3, 0)], []⟩)) [] [0, 1] none A1 0 c1 W (fun _ => rfl) (by decide) (by decide) (Row.nil _ _ _) hr (by decide) (fun args W => enters Try.func77 (by kernel_rfl) rfl args W)
      (fun W' g B hU hg h => al11 W' g B q ((hU.block q (Array.getElem?_eq_some_iff.1 hb).1).trans hb) (by have := (Array.getElem?_eq_some_iff.1 hb).1; omega) h))
  have HST := Lib.hid (fun W => strips11 W)
  have HLO := Lib.hid (fun W => locals11 W)
  have hb0 : (w.alloc (.cells #[.int .i64 2, .int .i64 3, .int .i64 2, .int .i64 0, .int .i64 0, .int .i64 0, .int .i64 0] 50)).heap[w.heap.size]? = some (.cells (regC 2 3 2 0 0 0 0) 50 (0, 0)) := heap_alloc_new w _
  have HB0 := Lib.hid hb0
  clear hb0
  go_enter Try.func27, Try.ntmps27
  go_wp2_with fail
  have hs0 : (w.alloc (.cells #[.int .i64 2, .int .i64 3, .int .i64 2, .int .i64 0, .int .i64 0, .int .i64 0, .int .i64 0] 50)).heap.size = w.heap.size + 1 := by simp
  have hU0 : Up w (w.alloc (.cells #[.int .i64 2, .int .i64 3, .int .i64 2, .int .i64 0, .int .i64 0, .int .i64 0, .int .i64 0] 50)) := (Up.refl w).alloc _
  obtain ⟨W0, hW0⟩ : ∃ x, w.alloc (.cells #[.int .i64 2, .int .i64 3, .int .i64 2, .int .i64 0, .int .i64 0, .int .i64 0, .int .i64 0] 50) = x := ⟨_, rfl⟩
  rw [hW0] at hs0 hU0 HB0 ⊢
  rw [← hs0]
  have hU1 : Up W0 (W0.alloc (.cells #[.int .i64 0, .int .i64 1] 3)) := (Up.refl W0).alloc _
  refine (HP1.out _ w.heap.size ((hU1.block _ (Array.getElem?_eq_some_iff.1 HB0.out).1).trans HB0.out) _ 2 (row_lit W0 [0, 1] 3)).mono ?_
  rintro e w1 ⟨ov, rfl, hout, hU⟩
  obtain ⟨A, c, N, d, L, e', rfl, r1, -, -, -⟩ := hout
  have HU1 := Lib.hid (show Up w w1 from (hU0.trans hU1).trans hU)
  obtain ⟨b, off, rfl, x1, x2, x3⟩ := r1 0 (by decide)
  have hl1 : (shortL [0, 0, 1]).length = 3 := rfl
  have hl2 : ([(2, 3, 1), (1, 3, 0)] : List (Int × Int × Int)).length = 2 := rfl
  have hl3 : ([] : List (Int × Int)).length = 0 := rfl
  simp only [hl1, hl2, hl3]
  have hUo : Up w1 (w1.alloc (.cells #[.bool true, .slice (some ⟨b, off, none⟩) 2 c, .slice N 0 d, .slice L 3 e'] 29)) := (Up.refl w1).alloc _
  have hbo := heap_alloc_new w1 (.cells #[.bool true, .slice (some ⟨b, off, none⟩) 2 c, .slice N 0 d, .slice L 3 e'] 29)
  have k0 := cell_of_row _ _ 0 _ _ _ hbo
  have k1 := cell_of_row _ _ 1 _ _ _ hbo
  simp only [List.getElem?_toArray, List.getElem?_cons_zero, List.getElem?_cons_succ] at k0 k1
  have y1 : (w1.alloc (.cells #[.bool true, .slice (some ⟨b, off, none⟩) 2 c, .slice N 0 d, .slice L 3 e'] 29)).cell? ⟨b, off, none⟩ = some (.int .i64 2) := (hUo.cell (p := ⟨b, off, none⟩) (cell_lt x1)).trans x1
  have y2 : (w1.alloc (.cells #[.bool true, .slice (some ⟨b, off, none⟩) 2 c, .slice N 0 d, .slice L 3 e'] 29)).cell? ⟨b, off + 1, none⟩ = some (.int .i64 3) := (hUo.cell (p := ⟨b, off + 1, none⟩) (cell_lt (by simpa using x2))).trans (by simpa using x2)
  have y3 : (w1.alloc (.cells #[.bool true, .slice (some ⟨b, off, none⟩) 2 c, .slice N 0 d, .slice L 3 e'] 29)).cell? ⟨b, off + 2, none⟩ = some (.int .i64 1) := (hUo.cell (p := ⟨b, off + 2, none⟩) (cell_lt (by simpa using x3))).trans (by simpa using x3)
  have HU2 := Lib.hid (HU1.out.trans hUo)
  have hne := eqAcc_same 2 3 1
  clear x1 x2 x3 hbo hUo hU hU0 hU1 HP1 HB0 r1 hl1 hl2 hl3 HU1 hW0 hs0
  go_wp2_with fail
  generalize w1.alloc (.cells #[.bool true, .slice (some ⟨b, off, none⟩) 2 c, .slice N 0 d, .slice L 3 e'] 29) = w2 at *
  refine (HST.out _).mono ?_
  rintro e w3 ⟨rfl, hU3⟩
  have HU3 := Lib.hid (HU2.out.trans hU3)
  clear k0 k1 y1 y2 y3 hU3 HU2 HST
  go_wp2_with fail
  refine (HLO.out _).mono ?_
  rintro e w4 ⟨rfl, rfl⟩
  go_wp2_with fail
  go_ret
  exact ⟨rfl, HU3.out⟩

end Go.Proofs.Ytpandnodeldbjaa
