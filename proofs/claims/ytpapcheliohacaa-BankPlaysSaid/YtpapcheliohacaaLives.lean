/-
  Package cell: a cell that lives; the chapter's example.
-/
import Derived.Test.YtpapcheliohacaaGood
set_option linter.unusedVariables false
set_option linter.unusedSimpArgs false
namespace Go.Proofs.Ytpapcheliohacaa
open Go.RowKit

/-- A cell beyond all that was there. -/
def Lives (w0 w : World) (h : Nat) (c : CS) (N : Nat) : Prop := w0.heap.size ≤ h ∧ Up w0 w ∧ CGood c N ∧ ∃ ms, CellIs w h h c ms
theorem Lives.up {w0 w w' : World} {h : Nat} {c : CS} {N : Nat} (L : Lives w0 w h c N) (u : Up w w') : Lives w0 w' h c N := by
  obtain ⟨h1, h2, h3, ms, h4⟩ := L
  exact ⟨h1, h2.trans u, h3, ms, h4.up u⟩
theorem CFrame.toUp {w0 w w' : World} {h : Nat} {c : CS} {ms ms' : Nat → Value} (hle : w0.heap.size ≤ h) (u : Up w0 w) (H : CellIs w h h c ms) (f : CFrame w w' h ms ms') : Up w0 w' := by
  refine ⟨f.os.trans u.os, f.tape.trans u.tape, f.output.trans u.output, Nat.le_trans u.size f.size, fun k hk => ?_⟩
  refine (f.block k (Nat.lt_of_lt_of_le hk u.size) (by omega) fun i hi e => ?_).trans (u.block k hk)
  have := ((H.own i hi).ge k e).1
  omega
theorem new_lives (kind top : Int) (w : World) : Calls Try.prog 9 #[.int .i64 kind, .int .i64 top] w fun e w' => e = .returned (.pointer (some ⟨w.heap.size, 0, none⟩)) ∧ Lives w w' w.heap.size (CS.new kind top) 0 :=
  (new_any kind top w).mono fun e w' ⟨he, hc, hu⟩ => ⟨he, Nat.le_refl _, hu, CGood.new _ _, _, hc⟩
theorem begin_lives (h N : Nat) (c : CS) (t k cl v : Int) (w0 w : World) (L : Lives w0 w h c N) (hN : N ≤ 900) :
    Calls Try.prog 12 #[.pointer (some ⟨h, 0, none⟩), .int .i64 t, .agg #[.int .i64 k, .int .i64 cl, .int .i64 v]] w fun e w' => e = .returned (.int .i64 (c.begin t k v).1) ∧ Lives w0 w' h (c.begin t k v).2 (N + 9) := by
  obtain ⟨h1, h2, h3, ms, h4⟩ := L
  exact (begin_any h h N c ms t k cl v w h4 h3 hN).mono fun e w' ⟨he, ms', q1, q2⟩ => ⟨he, h1, q2.toUp h1 h2 h4, h3.begin _ _ _, ms', q1⟩
theorem end_lives (h N : Nat) (c : CS) (t d : Int) (w0 w : World) (L : Lives w0 w h c N) (hN : N ≤ 1000) :
    Calls Try.prog 10 #[.pointer (some ⟨h, 0, none⟩), .int .i64 t, .int .i64 d] w fun e w' => e = .returned (.tuple #[.int .i64 (c.endA t d).1, .int .i64 (c.endA t d).2.1]) ∧ Lives w0 w' h (c.endA t d).2.2 N := by
  obtain ⟨h1, h2, h3, ms, h4⟩ := L
  exact (end_any h h N c ms t d w h4 h3 hN).mono fun e w' ⟨he, ms', q1, q2⟩ => ⟨he, h1, q2.toUp h1 h2 h4, h3.endA _ _, ms', q1⟩
theorem value_lives (h N : Nat) (c : CS) (w0 w : World) (L : Lives w0 w h c N) : Calls Try.prog 14 #[.pointer (some ⟨h, 0, none⟩)] w fun e w' => e = .returned (.int .i64 c.value) ∧ w' = w := by
  obtain ⟨h1, h2, h3, ms, h4⟩ := L
  exact value_any h h c ms w h4
theorem busy_lives (h N : Nat) (c : CS) (w0 w : World) (L : Lives w0 w h c N) : Calls Try.prog 15 #[.pointer (some ⟨h, 0, none⟩)] w fun e w' => e = .returned (.int .i64 (busyN c 8)) ∧ w' = w := by
  obtain ⟨h1, h2, h3, ms, h4⟩ := L
  exact busy_any h h c ms w h4

def al0 : CS := CS.new 1 9
def al1 : CS := (al0.begin 0 2 4).2
def al2 : CS := (al1.begin 1 1 0).2
def al3 : CS := (al2.endA 1 17).2.2
def al4 : CS := (al3.endA 0 0).2.2
def al5 : CS := (al4.begin 1 1 0).2
def al6 : CS := (al5.endA 1 17).2.2
def al7 : CS := (al6.endA 1 17).2.2

set_option maxRecDepth 10000 in
set_option maxHeartbeats 1000000 in
theorem alive08_any (w : World) : Calls Try.prog 8 #[] w fun e w' => e = .returned (.bool true) ∧ Up w w' := by
  have HP0 := Lib.hid (show Calls Try.prog 9 #[.int .i64 1, .int .i64 9] w fun e w' => e = .returned (.pointer (some ⟨w.heap.size, 0, none⟩)) ∧ Lives w w' w.heap.size al0 0 from new_lives 1 9 w)
  generalize hq : w.heap.size = h at HP0
  have HP1 := Lib.hid (fun W (L : Lives w W h al0 0) => show Calls Try.prog 12 #[.pointer (some ⟨h, 0, none⟩), .int .i64 0, .agg #[.int .i64 2, .int .i64 0, .int .i64 4]] W fun e w' => e = .returned (.int .i64 0) ∧ Lives w w' h al1 9 from begin_lives h 0 al0 0 2 0 4 w W L (by decide))
  have HP2 := Lib.hid (fun W (L : Lives w W h al1 9) => show Calls Try.prog 12 #[.pointer (some ⟨h, 0, none⟩), .int .i64 1, .agg #[.int .i64 1, .int .i64 0, .int .i64 0]] W fun e w' => e = .returned (.int .i64 0) ∧ Lives w w' h al2 18 from begin_lives h 9 al1 1 1 0 0 w W L (by decide))
  have HP3 := Lib.hid (fun W (L : Lives w W h al2 18) => show Calls Try.prog 10 #[.pointer (some ⟨h, 0, none⟩), .int .i64 1, .int .i64 17] W fun e w' => e = .returned (.tuple #[.int .i64 7, .int .i64 0]) ∧ Lives w w' h al3 18 from end_lives h 18 al2 1 17 w W L (by decide))
  have HP4 := Lib.hid (fun W (L : Lives w W h al3 18) => show Calls Try.prog 10 #[.pointer (some ⟨h, 0, none⟩), .int .i64 0, .int .i64 0] W fun e w' => e = .returned (.tuple #[.int .i64 0, .int .i64 0]) ∧ Lives w w' h al4 18 from end_lives h 18 al3 0 0 w W L (by decide))
  have HP5 := Lib.hid (fun W (L : Lives w W h al4 18) => show Calls Try.prog 12 #[.pointer (some ⟨h, 0, none⟩), .int .i64 1, .agg #[.int .i64 1, .int .i64 0, .int .i64 0]] W fun e w' => e = .returned (.int .i64 0) ∧ Lives w w' h al5 27 from begin_lives h 18 al4 1 1 0 0 w W L (by decide))
  have HPB := Lib.hid (fun W (L : Lives w W h al5 27) => show Calls Try.prog 15 #[.pointer (some ⟨h, 0, none⟩)] W fun e w' => e = .returned (.int .i64 1) ∧ w' = W from busy_lives h 27 al5 w W L)
  have HP6 := Lib.hid (fun W (L : Lives w W h al5 27) => show Calls Try.prog 10 #[.pointer (some ⟨h, 0, none⟩), .int .i64 1, .int .i64 17] W fun e w' => e = .returned (.tuple #[.int .i64 4, .int .i64 0]) ∧ Lives w w' h al6 27 from end_lives h 27 al5 1 17 w W L (by decide))
  have HP7 := Lib.hid (fun W (L : Lives w W h al6 27) => show Calls Try.prog 10 #[.pointer (some ⟨h, 0, none⟩), .int .i64 1, .int .i64 17] W fun e w' => e = .returned (.tuple #[.int .i64 0, .int .i64 7]) ∧ Lives w w' h al7 27 from end_lives h 27 al6 1 17 w W L (by decide))
  have HPV := Lib.hid (fun W (L : Lives w W h al7 27) => show Calls Try.prog 14 #[.pointer (some ⟨h, 0, none⟩)] W fun e w' => e = .returned (.int .i64 4) ∧ w' = W from value_lives h 27 al7 w W L)
  have HNL := Lib.hid (begin_nil 0 0 0 0)
  clear hq
  go_enter Try.func8, Try.ntmps8
  go_wp2_with fail
  refine HP0.out.mono ?_
  rintro e w0 ⟨rfl, L⟩
  have HL := Lib.hid L
  clear L HP0
  go_wp2_with fail
  refine (HP1.out _ HL.out).mono ?_
  clear HL
  rintro e w1 ⟨rfl, L⟩
  have HL := Lib.hid L
  clear L HP1
  go_wp2_with fail
  refine (HP2.out _ HL.out).mono ?_
  clear HL
  rintro e w2 ⟨rfl, L⟩
  have HL := Lib.hid L
  clear L HP2
  go_wp2_with fail
  refine (HP3.out _ HL.out).mono ?_
  clear HL
  rintro e w3 ⟨rfl, L⟩
  have HL := Lib.hid L
  clear L HP3
  go_wp2_with fail
  refine (HP4.out _ HL.out).mono ?_
  clear HL
  rintro e w4 ⟨rfl, L⟩
  have HL := Lib.hid L
  clear L HP4
  go_wp2_with fail
  refine (HP5.out _ HL.out).mono ?_
  clear HL
  rintro e w5 ⟨rfl, L⟩
  have HL := Lib.hid L
  clear L HP5
  go_wp2_with fail
  refine (HPB.out _ HL.out).mono ?_
  rintro e w5 ⟨rfl, rfl⟩
  go_wp2_with fail
  refine (HP6.out _ HL.out).mono ?_
  clear HL
  rintro e w6 ⟨rfl, L⟩
  have HL := Lib.hid L
  clear L HP6
  go_wp2_with fail
  refine (HP7.out _ HL.out).mono ?_
  clear HL
  rintro e w7 ⟨rfl, L⟩
  have HL := Lib.hid L
  clear L HP7
  go_wp2_with fail
  refine (HPV.out _ HL.out).mono ?_
  rintro e w8 ⟨rfl, rfl⟩
  go_wp2_with fail
  refine (HNL.out _).mono ?_
  rintro e w9 ⟨rfl, hU⟩
  go_wp2_with fail
  go_ret
  exact ⟨rfl, HL.out.2.1.trans hU⟩

end Go.Proofs.Ytpapcheliohacaa
