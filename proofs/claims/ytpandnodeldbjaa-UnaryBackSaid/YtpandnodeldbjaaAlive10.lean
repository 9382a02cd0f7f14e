/-
  The example of chapter 10.
-/
import Derived.Test.YtpandnodeldbjaaPlayS
import Derived.Test.YtpandnodeldbjaaSame
import Derived.Test.YtpandnodeldbjaaNil
set_option linter.unusedVariables false
set_option linter.unusedSimpArgs false
namespace Go.Proofs.Ytpandnodeldbjaa
open Go.RowKit

set_option maxRecDepth 10000 in
theorem al1 (W : World) (g B : Nat) (h : Tape1 W g B ⟨[7], [], [], []⟩) :
    Calls Try.prog 62 #[.pointer (some ⟨g, 0, none⟩)] W (TPost encS g B W (none, ⟨[7], [0, 0, 9], [(1, 3, 0), (2, 4, 7)], [(1, 0)]⟩)) := by
  have C1 := Lib.hid (note_any g B 1 _ W h (by decide))
  have C2 := Lib.hid (fun W' h' => set_any g B 2 9 (TS.noted ⟨[7], [], [], []⟩ 1) W' h')
  have C3 := Lib.hid (fun W' h' => read_ok g B 3 ((TS.noted ⟨[7], [], [], []⟩ 1).set 2 9) W' h' (by decide))
  have C4 := Lib.hid (fun W' h' => write_stop g B 4 7 (((TS.noted ⟨[7], [], [], []⟩ 1).set 2 9).asked (1, 3, 0)) W' h' (by decide))
  have e3 : ((TS.noted ⟨[7], [], [], []⟩ 1).set 2 9).told = 7 := rfl
  have E4 := Lib.hid (show ((((TS.noted ⟨[7], [], [], []⟩ 1).set 2 9).asked (1, 3, 0))).asked (2, 4, 7) = ⟨[7], [0, 0, 9], [(1, 3, 0), (2, 4, 7)], [(1, 0)]⟩ from rfl)
  rw [e3] at C3
  clear h e3
  go_enter Try.func62, Try.ntmps62
  go_wp2_with fail
  refine C1.out.mono ?_
  rintro e w1 ⟨rfl, h1, k1⟩
  have H1 := Lib.hid h1
  have K1 := Lib.hid k1
  clear h1 k1
  go_wp2_with fail
  refine (C2.out _ H1.out).mono ?_
  rintro e w2 ⟨rfl, h2, k2⟩
  have H2 := Lib.hid h2
  have K2 := Lib.hid (K1.out.trans k2)
  clear h2 k2
  go_wp2_with fail
  refine (C3.out _ H2.out).mono ?_
  rintro e w3 ⟨rfl, h3, k3⟩
  have H3 := Lib.hid h3
  have K3 := Lib.hid (K2.out.trans k3)
  clear h3 k3
  go_wp2_with fail
  refine (C4.out _ H3.out).mono ?_
  rintro e w4 ⟨rfl, h4, k4⟩
  rw [E4.out] at h4
  have H4 := Lib.hid h4
  have K4 := Lib.hid (K3.out.trans k4)
  clear h4 k4
  go_wp2_with fail
  exact ⟨rfl, ⟨rfl, H4.out⟩, K4.out⟩

set_option maxRecDepth 10000 in
theorem al2 (W : World) (g B : Nat) (h : Tape1 W g B ⟨[7, 8], [5], [], []⟩) :
    Calls Try.prog 67 #[.pointer (some ⟨g, 0, none⟩)] W (TPost encI g B W (some 12, ⟨[7, 8], [5], [(1, 1, 0)], []⟩)) := by
  have C1 := Lib.hid (read_ok g B 1 _ W h (by decide))
  have C2 := Lib.hid (fun W' h' => get_any g B 0 (TS.asked ⟨[7, 8], [5], [], []⟩ (1, 1, 0)) W' h')
  have e1 : TS.told ⟨[7, 8], [5], [], []⟩ = 7 := rfl
  have e2 : (TS.asked ⟨[7, 8], [5], [], []⟩ (1, 1, 0)).get 0 = 5 := rfl
  have E4 := Lib.hid (show TS.asked ⟨[7, 8], [5], [], []⟩ (1, 1, 0) = ⟨[7, 8], [5], [(1, 1, 0)], []⟩ from rfl)
  rw [e1] at C1
  rw [e2] at C2
  clear h e1 e2
  go_enter Try.func67, Try.ntmps67
  go_wp2_with fail
  refine C1.out.mono ?_
  rintro e w1 ⟨rfl, h1, k1⟩
  have H1 := Lib.hid h1
  have K1 := Lib.hid k1
  clear h1 k1
  go_wp2_with fail
  refine (C2.out _ H1.out).mono ?_
  rintro e w2 ⟨rfl, rfl⟩
  have H2 := Lib.hid (show Tape1 w2 g B ⟨[7, 8], [5], [(1, 1, 0)], []⟩ from H1.out)
  go_wp2_with fail
  go_ret
  exact ⟨⟨rfl, H2.out⟩, K1.out⟩

theorem row1 (w : World) (x : Int) (e : TypeId) : Row (w.alloc (.cells #[.int .i64 x] e)) (some ⟨w.heap.size, 0, none⟩) 1 (IVal [x]) := row_lit w [x] e
theorem row2 (w : World) (x y : Int) (e : TypeId) : Row (w.alloc (.cells #[.int .i64 x, .int .i64 y] e)) (some ⟨w.heap.size, 0, none⟩) 2 (IVal [x, y]) := row_lit w [x, y] e

theorem acc_lit (w : World) (l : List (Int × Int × Int)) (e : TypeId) : AccRow (w.alloc (.cells (acells l).toArray e)) (some ⟨w.heap.size, 0, none⟩) l := fun k hk => by
  obtain ⟨h1, h2, h3⟩ := acells_get l k hk
  have hb := heap_alloc_new w (.cells (acells l).toArray e)
  refine ⟨w.heap.size, 0, rfl, ?_, ?_, ?_⟩
  · rw [Nat.zero_add, cell_of_row _ _ _ _ _ _ hb]; simpa using h1
  · rw [Nat.zero_add, cell_of_row _ _ _ _ _ _ hb]; simpa using h2
  · rw [Nat.zero_add, cell_of_row _ _ _ _ _ _ hb]; simpa using h3
theorem note_lit (w : World) (l : List (Int × Int)) (e : TypeId) : NoteRow (w.alloc (.cells (ncells l).toArray e)) (some ⟨w.heap.size, 0, none⟩) l := fun k hk => by
  obtain ⟨h1, h2⟩ := ncells_get l k hk
  have hb := heap_alloc_new w (.cells (ncells l).toArray e)
  refine ⟨w.heap.size, 0, rfl, ?_, ?_⟩
  · rw [Nat.zero_add, cell_of_row _ _ _ _ _ _ hb]; simpa using h1
  · rw [Nat.zero_add, cell_of_row _ _ _ _ _ _ hb]; simpa using h2

theorem same_alive (w1 w5 : World) (A N L : Option Addr) (c d e' : Nat) (h : AccRow w1 A [(1, 3, 0), (2, 4, 7)] ∧ NoteRow w1 N [(1, 0)] ∧ Row w1 L 3 (IVal [0, 0, 9])) (hU : Up w1 w5) :
    Calls Try.prog 20 #[.agg #[.bool false, .slice A 2 c, .slice N 1 d, .slice L 3 e'], .agg #[.bool false, .slice (some ⟨w5.heap.size, 0, none⟩) 2 2, .slice (some ⟨w5.heap.size + 1, 0, none⟩) 1 1, .slice (some ⟨w5.heap.size + 1 + 1, 0, none⟩) 3 3]]
      (((w5.alloc (.cells #[.int .i64 1, .int .i64 3, .int .i64 0, .int .i64 2, .int .i64 4, .int .i64 7] 45)).alloc (.cells #[.int .i64 1, .int .i64 0] 47)).alloc (.cells #[.int .i64 0, .int .i64 0, .int .i64 9] 3))
      fun e w' => e = .returned (.bool true) ∧ Up w5 w' := by
  have u1 : Up w5 (w5.alloc (.cells #[.int .i64 1, .int .i64 3, .int .i64 0, .int .i64 2, .int .i64 4, .int .i64 7] 45)) := (Up.refl w5).alloc _
  have s1 : (w5.alloc (.cells #[.int .i64 1, .int .i64 3, .int .i64 0, .int .i64 2, .int .i64 4, .int .i64 7] 45)).heap.size = w5.heap.size + 1 := by simp
  have r1 : AccRow (w5.alloc (.cells #[.int .i64 1, .int .i64 3, .int .i64 0, .int .i64 2, .int .i64 4, .int .i64 7] 45)) (some ⟨w5.heap.size, 0, none⟩) [(1, 3, 0), (2, 4, 7)] := acc_lit w5 [(1, 3, 0), (2, 4, 7)] _
  rw [← s1]
  generalize w5.alloc (.cells #[.int .i64 1, .int .i64 3, .int .i64 0, .int .i64 2, .int .i64 4, .int .i64 7] 45) = W1 at *
  have u2 : Up W1 (W1.alloc (.cells #[.int .i64 1, .int .i64 0] 47)) := (Up.refl W1).alloc _
  have s2 : (W1.alloc (.cells #[.int .i64 1, .int .i64 0] 47)).heap.size = W1.heap.size + 1 := by simp
  have r2 : NoteRow (W1.alloc (.cells #[.int .i64 1, .int .i64 0] 47)) (some ⟨W1.heap.size, 0, none⟩) [(1, 0)] := note_lit W1 [(1, 0)] _
  rw [← s2]
  generalize W1.alloc (.cells #[.int .i64 1, .int .i64 0] 47) = W2 at *
  have r3 : Row (W2.alloc (.cells #[.int .i64 0, .int .i64 0, .int .i64 9] 3)) (some ⟨W2.heap.size, 0, none⟩) 3 (IVal [0, 0, 9]) := row_lit W2 [0, 0, 9] _
  have u3 : Up W2 (W2.alloc (.cells #[.int .i64 0, .int .i64 0, .int .i64 9] 3)) := (Up.refl W2).alloc _
  generalize W2.alloc (.cells #[.int .i64 0, .int .i64 0, .int .i64 9] 3) = W3 at *
  have hA : Up w1 W3 := ((hU.trans u1).trans u2).trans u3
  refine (same_any false false [(1, 3, 0), (2, 4, 7)] [(1, 3, 0), (2, 4, 7)] [(1, 0)] [(1, 0)] [0, 0, 9] [0, 0, 9] A N L (some ⟨w5.heap.size, 0, none⟩) (some ⟨W1.heap.size, 0, none⟩) (some ⟨W2.heap.size, 0, none⟩) c d e' 2 1 3 W3 (h.1.up hA) (h.2.1.up hA) (h.2.2.up hA) (r1.up (u2.trans u3)) (r2.up u3) r3 (by decide) (by decide) (by decide) (by decide)).mono ?_
  rintro e w' ⟨rfl, hu⟩
  exact ⟨rfl, ((u1.trans u2).trans u3).trans hu⟩

set_option maxRecDepth 10000 in
set_option maxHeartbeats 400000 in
theorem alive10_any (w : World) : Calls Try.prog 13 #[] w fun e w' => e = .returned (.bool true) ∧ Up w w' := by
  have HP1 := Lib.hid (fun (W : World) (A1 : Option Addr) (c1 : Nat) (hr : Row W A1 1 (IVal [7])) =>
    playS 62 #[] (fun _ => (none, ⟨[7], [0, 0, 9], [(1, 3, 0), (2, 4, 7)], [(1, 0)]⟩)) [] [7] none A1 0 c1 W (fun _ => rfl) (by decide) (by decide) (Row.nil _ _ _) hr (by decide) (fun args W => enters Try.func62 (by kernel_rfl) rfl args W) (fun W' g B _ _ h => al1 W' g B h))
  have HP2 := Lib.hid (fun (W : World) (A0 A1 : Option Addr) (c0 c1 : Nat) (h0 : A0 = none → c0 = 0) (hc : 1 ≤ c0) (hr0 : Row W A0 1 (IVal [5])) (hr : Row W A1 2 (IVal [7, 8])) =>
    show Calls Try.prog 15 #[.func (.func 67) #[] #[], .slice A0 1 c0, .slice A1 2 c1] W fun e w' => ∃ ov, e = .returned (.tuple #[.int .i64 12, ov]) ∧ OutIs w' ov true ⟨[7, 8], [5], [(1, 1, 0)], []⟩ ∧ Up W w' from
    playI 67 #[] (fun _ => (some 12, ⟨[7, 8], [5], [(1, 1, 0)], []⟩)) [5] [7, 8] A0 A1 c0 c1 W h0 (by decide) (by decide) hr0 hr hc (fun args W => enters Try.func67 (by kernel_rfl) rfl args W) (fun W' g B _ _ h => al2 W' g B h))
  have HSH := Lib.hid (fun (W : World) (A : Option Addr) (hr : Row W A 3 (IVal [1, 0, 0])) (hA : A = none → 3 = 0) =>
    show Calls Try.prog 23 #[.slice A 3 3] W fun e w' => ∃ v, e = .returned v ∧ w'.ownsRow W.heap.size 3 1 v 1 (icells [1]) ∧ Up W w' from short_any [1, 0, 0] A 3 W hA hr (by decide) (by decide))
  have HWN := Lib.hid (fun W => write_nil 1 2 W)
  have HRN := Lib.hid (fun W => read_nil 3 W)
  go_enter Try.func13, Try.ntmps13
  go_wp2_with fail
  refine (HP1.out _ _ _ (row1 w 7 3)).mono ?_
  rintro e w1 ⟨ov, rfl, hout, hU⟩
  obtain ⟨A, c, N, d, L, e', rfl, r1, r2, r3, _⟩ := hout
  have HR1 := Lib.hid (show AccRow w1 A [(1, 3, 0), (2, 4, 7)] ∧ NoteRow w1 N [(1, 0)] ∧ Row w1 L 3 (IVal [0, 0, 9]) from ⟨r1, r2, r3⟩)
  have HU1 := Lib.hid (show Up w w1 from ((Up.refl w).alloc _).trans hU)
  clear r1 r2 r3 hU HP1
  have hsl : shortL [0, 0, 9] = [0, 0, 9] := rfl
  simp only [hsl, List.length_cons, List.length_nil, Nat.reduceAdd, Option.getD_none, Option.isSome_none]
  clear hsl
  go_wp2_with fail
  have hb2 := heap_alloc_new w1 (.cells #[.bool false, .slice A 2 c, .slice N 1 d, .slice L 3 e'] 29)
  have hU2 : Up w1 (w1.alloc (.cells #[.bool false, .slice A 2 c, .slice N 1 d, .slice L 3 e'] 29)) := (Up.refl w1).alloc _
  have hs2 : (w1.alloc (.cells #[.bool false, .slice A 2 c, .slice N 1 d, .slice L 3 e'] 29)).heap.size = w1.heap.size + 1 := by simp
  have HB2 := Lib.hid hb2
  have HU2 := Lib.hid hU2
  rw [← hs2]
  generalize w1.alloc (.cells #[.bool false, .slice A 2 c, .slice N 1 d, .slice L 3 e'] 29) = W2 at *
  have hs3 : (W2.alloc (.cells #[.int .i64 5] 3)).heap.size = W2.heap.size + 1 := by simp
  have hR5 := (row1 W2 5 3).up ((Up.refl _).alloc (.cells #[.int .i64 7, .int .i64 8] 3))
  have hR7 := row2 (W2.alloc (.cells #[.int .i64 5] 3)) 7 8 3
  rw [hs3] at hR7
  refine (HP2.out _ _ _ 1 2 (fun h => by cases h) (Nat.le_refl _) hR5 hR7).mono ?_
  rintro e w4 ⟨ov2, rfl, hout, hU⟩
  obtain ⟨A', c', N', d', L', e2, rfl, -, -, -, -⟩ := hout
  have HU4 := Lib.hid (show Up W2 w4 from (((Up.refl W2).alloc _).alloc _).trans hU)
  have hb4 := (HU4.out.block _ (Array.getElem?_eq_some_iff.1 HB2.out).1).trans HB2.out
  have HB4 := Lib.hid hb4
  have hsz4 : w1.heap.size < w4.heap.size := (Array.getElem?_eq_some_iff.1 hb4).1
  have hsl : (shortL [5]).length = 1 := rfl
  simp only [hsl, List.length_cons, List.length_nil, Nat.reduceAdd]
  clear hsl hU hR5 hR7 hs3 hb2 hU2 HP2 hb4
  go_wp2_with fail
  refine (HWN.out _).mono ?_
  rintro e w5 ⟨rfl, hU5⟩
  have hbw4 := heap_alloc_new w4 (.cells #[.bool true, .slice A' 1 c', .slice N' 0 d', .slice L' 1 e2] 29)
  have hb5 := (hU5.block _ (Array.getElem?_eq_some_iff.1 hbw4).1).trans hbw4
  have hb6 := (hU5.block w1.heap.size (by rw [World.size_alloc]; omega)).trans ((Below.heap_alloc w4 (.cells #[.bool true, .slice A' 1 c', .slice N' 0 d', .slice L' 1 e2] 29) _ hsz4).trans HB4.out)
  have HU5 := Lib.hid (show Up w1 w5 from (HU2.out.trans HU4.out).trans (((Up.refl w4).alloc _).trans hU5))
  have HB5 := Lib.hid hb5
  have HB6 := Lib.hid hb6
  clear hb5 hb6 hbw4 hU5 HWN HB4 HU4 HU2 HB2 hs2
  have hq0 := cell_of_row w5 _ 0 _ _ _ HB6.out
  have hq1 := cell_of_row w5 _ 1 _ _ _ HB6.out
  have hq2 := cell_of_row w5 _ 2 _ _ _ HB6.out
  have hq3 := cell_of_row w5 _ 3 _ _ _ HB6.out
  simp only [List.getElem?_toArray, List.getElem?_cons_zero, List.getElem?_cons_succ] at hq0 hq1 hq2 hq3
  go_wp2_with fail
  refine (same_alive w1 w5 A N L c d e' HR1.out HU5.out).mono ?_
  rintro e w6 ⟨rfl, hU6⟩
  have hb7 := (hU6.block _ (Array.getElem?_eq_some_iff.1 HB5.out).1).trans HB5.out
  have hp0 := cell_of_row w6 _ 0 _ _ _ hb7
  have hp1 := cell_of_row w6 _ 1 _ _ _ hb7
  simp only [List.getElem?_toArray, List.getElem?_cons_zero, List.getElem?_cons_succ] at hp0 hp1
  have HU6 := Lib.hid (show Up w w6 from (HU1.out.trans HU5.out).trans hU6)
  clear hq0 hq1 hq2 hq3 HB6 HB5 hb7 hU6 HU5 HU1 HR1
  go_wp2_with fail
  refine (HRN.out _).mono ?_
  rintro e w7 ⟨rfl, hU7⟩
  have HU7 := Lib.hid (HU6.out.trans hU7)
  clear hp0 hp1 HU6 hU7 HRN
  go_wp2_with fail
  refine (HSH.out _ _ (row_lit w7 [1, 0, 0] 3) (fun h => by cases h)).mono ?_
  rintro e w8 ⟨v, rfl, hv, hU8⟩
  have HU8 := Lib.hid (HU7.out.trans (((Up.refl w7).alloc _).trans hU8))
  obtain ⟨V, cv, rfl⟩ : ∃ V cv, v = .slice V 1 cv := by
    rcases hv.2 with ⟨_, h0⟩ | ⟨gl, cap, cur, rfl, _⟩
    · omega
    · exact ⟨_, _, rfl⟩
  clear hv hU8 HU7 HSH
  go_wp2_with fail
  go_ret
  exact ⟨rfl, HU8.out⟩

end Go.Proofs.Ytpandnodeldbjaa
