/-
  The one-bit lock: the closures; the chapter's example.
-/
import Derived.Test.YtleebaebihbcdaaOneW
import Derived.Test.YtleebaebihbcdaaPlayQ
import Derived.Laws.StructEq
set_option linter.unusedVariables false
set_option linter.unusedSimpArgs false
namespace Go.Proofs.Ytleebaebihbcdaa
open Go.RowKit

theorem oEnters {F : FuncId} {fn : Func} {c : Code} (hf : Try.prog.funcs[F]? = some fn) (hname : (fn.name == "runtime.NumGoroutine") = false) (hb : fn.body = some c) (args : Array Value) (W : World) : (callFunc F args).run Try.prog W = .ok (.enter F args) W := by
  have h1 : fn.name ≠ "runtime.NumGoroutine" := by simpa using hname
  simp [callFunc, hf, h1, hb, mark]
theorem otpost_both {g B : Nat} {w w' : World} {r : Option Int × TS} {e : Ending} (q : TPost encI g B w r e w') : (∃ v, r.1 = Option.some v ∧ e = .returned (.int .i64 v)) ∨ (r.1 = Option.none ∧ e = .panicked (stopC g)) := by
  obtain ⟨ro, s⟩ := r
  cases ro with
  | some v => exact .inl ⟨v, rfl, q.1.1⟩
  | none => exact .inr ⟨rfl, q.1.1⟩
/-- A lock in its box. -/
def OBox (W : World) (b : Nat) (many : Int) : Prop := W.heap[b]? = some (.cells #[.int .i64 2, .int .i64 many, .int .i64 0, .int .i64 0, .int .i64 0, .int .i64 0] 68 (0, 0))

set_option maxRecDepth 10000 in
set_option maxHeartbeats 1000000 in
theorem ocl_92 (ans : List Int) (many t : Nat) (b g B : Nat) (W : World) (ht2 : t = 92 - 92) (hm : 1 ≤ many ∧ many ≤ 8) (ht : t < many) (hb : OBox W b many) (h : Tape1 W g B ⟨ans, [], [], []⟩) :
    Calls Try.prog 92 #[.pointer (some ⟨g, 0, none⟩), .pointer (some ⟨b, 0, none⟩)] W fun e w' => ∃ r, OneR ans many t r ∧ TPost encI g B W r e w' := by
  have c0 := cell_of_row _ _ 0 _ _ _ hb
  have c1 := cell_of_row _ _ 1 _ _ _ hb
  have c2 := cell_of_row _ _ 2 _ _ _ hb
  have c3 := cell_of_row _ _ 3 _ _ _ hb
  have c4 := cell_of_row _ _ 4 _ _ _ hb
  have c5 := cell_of_row _ _ 5 _ _ _ hb
  simp only [List.getElem?_toArray, List.getElem?_cons_zero, List.getElem?_cons_succ] at c0 c1 c2 c3 c4 c5
  have HA := Lib.hid (oacquire_any ans many t g B W hm ht h)
  subst ht2
  clear h hm hb
  go_enter Try.func92, Try.ntmps92
  go_wp2_with fail
  refine HA.out.mono ?_
  rintro e w1 ⟨r, hR, q⟩
  have HR := Lib.hid hR
  have HQ := Lib.hid q
  rcases otpost_both q with ⟨v, hv, rfl⟩ | ⟨hv, rfl⟩
  · clear q hR
    go_wp2_with fail
    go_ret
    exact ⟨r, HR.out, HQ.out⟩
  · clear q hR
    go_wp2_with fail
    exact ⟨rfl, r, HR.out, HQ.out⟩
set_option maxRecDepth 10000 in
set_option maxHeartbeats 1000000 in
theorem ocl_93 (ans : List Int) (many t : Nat) (b g B : Nat) (W : World) (ht2 : t = 93 - 92) (hm : 1 ≤ many ∧ many ≤ 8) (ht : t < many) (hb : OBox W b many) (h : Tape1 W g B ⟨ans, [], [], []⟩) :
    Calls Try.prog 93 #[.pointer (some ⟨g, 0, none⟩), .pointer (some ⟨b, 0, none⟩)] W fun e w' => ∃ r, OneR ans many t r ∧ TPost encI g B W r e w' := by
  have c0 := cell_of_row _ _ 0 _ _ _ hb
  have c1 := cell_of_row _ _ 1 _ _ _ hb
  have c2 := cell_of_row _ _ 2 _ _ _ hb
  have c3 := cell_of_row _ _ 3 _ _ _ hb
  have c4 := cell_of_row _ _ 4 _ _ _ hb
  have c5 := cell_of_row _ _ 5 _ _ _ hb
  simp only [List.getElem?_toArray, List.getElem?_cons_zero, List.getElem?_cons_succ] at c0 c1 c2 c3 c4 c5
  have HA := Lib.hid (oacquire_any ans many t g B W hm ht h)
  subst ht2
  clear h hm hb
  go_enter Try.func93, Try.ntmps93
  go_wp2_with fail
  refine HA.out.mono ?_
  rintro e w1 ⟨r, hR, q⟩
  have HR := Lib.hid hR
  have HQ := Lib.hid q
  rcases otpost_both q with ⟨v, hv, rfl⟩ | ⟨hv, rfl⟩
  · clear q hR
    go_wp2_with fail
    go_ret
    exact ⟨r, HR.out, HQ.out⟩
  · clear q hR
    go_wp2_with fail
    exact ⟨rfl, r, HR.out, HQ.out⟩
set_option maxRecDepth 10000 in
set_option maxHeartbeats 1000000 in
theorem ocl_55 (ans : List Int) (many t : Nat) (b b2 g B : Nat) (W : World) (hm : 1 ≤ many ∧ many ≤ 8) (ht : t < many) (hb : OBox W b many) (hb2 : W.heap[b2]? = some (.cells #[.int .i64 t] 3 (0, 0))) (h : Tape1 W g B ⟨ans, [], [], []⟩) :
    Calls Try.prog 55 #[.pointer (some ⟨g, 0, none⟩), .pointer (some ⟨b, 0, none⟩), .pointer (some ⟨b2, 0, none⟩)] W fun e w' => ∃ r, OneR ans many t r ∧ TPost encI g B W r e w' := by
  have c0 := cell_of_row _ _ 0 _ _ _ hb
  have c1 := cell_of_row _ _ 1 _ _ _ hb
  have c2 := cell_of_row _ _ 2 _ _ _ hb
  have c3 := cell_of_row _ _ 3 _ _ _ hb
  have c4 := cell_of_row _ _ 4 _ _ _ hb
  have c5 := cell_of_row _ _ 5 _ _ _ hb
  have d0 := cell_of_row _ _ 0 _ _ _ hb2
  simp only [List.getElem?_toArray, List.getElem?_cons_zero, List.getElem?_cons_succ] at c0 c1 c2 c3 c4 c5 d0
  have HA := Lib.hid (oacquire_any ans many t g B W hm ht h)
  clear h hm hb hb2
  go_enter Try.func55, Try.ntmps55
  go_wp2_with fail
  refine HA.out.mono ?_
  rintro e w1 ⟨r, hR, q⟩
  have HR := Lib.hid hR
  have HQ := Lib.hid q
  rcases otpost_both q with ⟨v, hv, rfl⟩ | ⟨hv, rfl⟩
  · clear q hR
    go_wp2_with fail
    go_ret
    exact ⟨r, HR.out, HQ.out⟩
  · clear q hR
    go_wp2_with fail
    exact ⟨rfl, r, HR.out, HQ.out⟩
set_option maxRecDepth 10000 in
set_option maxHeartbeats 1000000 in
theorem ocl_57 (ans : List Int) (many t : Nat) (b b2 g B : Nat) (W : World) (hm : 1 ≤ many ∧ many ≤ 8) (ht : t < many) (hb : OBox W b many) (hb2 : W.heap[b2]? = some (.cells #[.int .i64 t] 3 (0, 0))) (h : Tape1 W g B ⟨ans, [], [], []⟩) :
    Calls Try.prog 57 #[.pointer (some ⟨g, 0, none⟩), .pointer (some ⟨b, 0, none⟩), .pointer (some ⟨b2, 0, none⟩)] W fun e w' => ∃ r, OneR ans many t r ∧ TPost encI g B W r e w' := by
  have c0 := cell_of_row _ _ 0 _ _ _ hb
  have c1 := cell_of_row _ _ 1 _ _ _ hb
  have c2 := cell_of_row _ _ 2 _ _ _ hb
  have c3 := cell_of_row _ _ 3 _ _ _ hb
  have c4 := cell_of_row _ _ 4 _ _ _ hb
  have c5 := cell_of_row _ _ 5 _ _ _ hb
  have d0 := cell_of_row _ _ 0 _ _ _ hb2
  simp only [List.getElem?_toArray, List.getElem?_cons_zero, List.getElem?_cons_succ] at c0 c1 c2 c3 c4 c5 d0
  have HA := Lib.hid (oacquire_any ans many t g B W hm ht h)
  clear h hm hb hb2
  go_enter Try.func57, Try.ntmps57
  go_wp2_with fail
  refine HA.out.mono ?_
  rintro e w1 ⟨r, hR, q⟩
  have HR := Lib.hid hR
  have HQ := Lib.hid q
  rcases otpost_both q with ⟨v, hv, rfl⟩ | ⟨hv, rfl⟩
  · clear q hR
    go_wp2_with fail
    go_ret
    exact ⟨r, HR.out, HQ.out⟩
  · clear q hR
    go_wp2_with fail
    exact ⟨rfl, r, HR.out, HQ.out⟩
theorem ostrips_any (w : World) : Calls Try.prog 94 #[.agg #[.int .i64 2, .int .i64 2, .int .i64 0, .int .i64 0, .int .i64 0, .int .i64 0]] w fun e w' => ∃ A, e = .returned (.slice A 1 1) ∧ Up w w' := by
  have hb := heap_alloc_new w (.cells #[.int .i64 2, .int .i64 2, .int .i64 0, .int .i64 0, .int .i64 0, .int .i64 0] 68)
  have c0 := cell_of_row _ _ 0 _ _ _ hb
  have c1 := cell_of_row _ _ 1 _ _ _ hb
  have c2 := cell_of_row _ _ 2 _ _ _ hb
  have c3 := cell_of_row _ _ 3 _ _ _ hb
  have c4 := cell_of_row _ _ 4 _ _ _ hb
  have c5 := cell_of_row _ _ 5 _ _ _ hb
  simp only [List.getElem?_toArray, List.getElem?_cons_zero, List.getElem?_cons_succ] at c0 c1 c2 c3 c4 c5
  have HU := Lib.hid (show Up w (w.alloc (.cells #[.int .i64 2, .int .i64 2, .int .i64 0, .int .i64 0, .int .i64 0, .int .i64 0] 68)) from (Up.refl w).alloc _)
  have HSZ := Lib.hid (fun W => othreads_any 2 2 0 0 0 0 W (by decide))
  clear hb
  go_enter Try.func94, Try.ntmps94
  go_wp2_with fail
  refine (HSZ.out _).mono ?_
  rintro e w2 ⟨rfl, hu2⟩
  have HU2 := Lib.hid (HU.out.trans hu2)
  clear c0 c1 c2 c3 c4 c5 hu2
  go_wp2_with fail
  go_ret
  exact ⟨_, rfl, HU2.out.trans ((Up.refl _).alloc _)⟩
theorem oeqAcc_same (a0 a1 a2 : Int) (W : World) : (binOp .eql 45 (.agg #[.int .i64 a0, .int .i64 a1, .int .i64 a2]) (.agg #[.int .i64 a0, .int .i64 a1, .int .i64 a2])).run Try.prog W = .ok (.bool true) W := by
  simp [go_sem]
theorem two_allocO (w : World) (R V : Array Value) (tr tv : TypeId) : Up w ((w.alloc (.cells R tr)).alloc (.cells V tv)) ∧ ((w.alloc (.cells R tr)).alloc (.cells V tv)).heap[w.heap.size]? = some (.cells R tr (0, 0)) ∧
    ((w.alloc (.cells R tr)).alloc (.cells V tv)).heap[w.heap.size + 1]? = some (.cells V tv (0, 0)) := by
  have u1 : Up w (w.alloc (.cells R tr)) := (Up.refl w).alloc _
  have u2 : Up (w.alloc (.cells R tr)) ((w.alloc (.cells R tr)).alloc (.cells V tv)) := (Up.refl _).alloc _
  have h1 := heap_alloc_new w (.cells R tr)
  have h2 := heap_alloc_new (w.alloc (.cells R tr)) (.cells V tv)
  have s1 : (w.alloc (.cells R tr)).heap.size = w.heap.size + 1 := by simp
  rw [s1] at h2
  exact ⟨u1.trans u2, (u2.block _ (by omega)).trans h1, h2⟩
theorem oallz : AllZ [0, 0] 2 := ⟨fun k => by rcases k with _ | _ | k <;> rfl, by decide⟩

set_option maxRecDepth 10000 in
set_option maxHeartbeats 1000000 in
theorem alive24_any (w : World) : Calls Try.prog 53 #[] w fun e w' => e = .returned (.bool true) ∧ Up w w' := by
  have HP1 := Lib.hid (fun (W : World) (b : Nat) (A1 : Option Addr) (c1 : Nat) (hr : Row W A1 2 (IVal [0, 0])) (hb : OBox W b 2) =>
    playQ 92 #[.pointer (some ⟨b, 0, none⟩)] (OneR [0, 0] 2 0) [] [0, 0] none A1 0 c1 W (fun _ => rfl) (by decide) (by decide) (Row.nil _ _ _) hr (by decide) (fun args W => oEnters Try.func92 (by kernel_rfl) rfl args W)
      (fun W' g B hu _ h => ocl_92 [0, 0] 2 0 b g B W' rfl (by decide) (by decide) ((hu.block b (Array.getElem?_eq_some_iff.1 hb).1).trans hb) h))
  have HP2 := Lib.hid (fun (W : World) (b : Nat) (A1 : Option Addr) (c1 : Nat) (hr : Row W A1 5 (IVal [0, 1, 0, 0, 0])) (hb : OBox W b 2) =>
    playQ 93 #[.pointer (some ⟨b, 0, none⟩)] (OneR [0, 1, 0, 0, 0] 2 1) [] [0, 1, 0, 0, 0] none A1 0 c1 W (fun _ => rfl) (by decide) (by decide) (Row.nil _ _ _) hr (by decide) (fun args W => oEnters Try.func93 (by kernel_rfl) rfl args W)
      (fun W' g B hu _ h => ocl_93 [0, 1, 0, 0, 0] 2 1 b g B W' rfl (by decide) (by decide) ((hu.block b (Array.getElem?_eq_some_iff.1 hb).1).trans hb) h))
  have HST := Lib.hid ostrips_any
  obtain ⟨W0, hW0⟩ : ∃ x, w.alloc (.cells #[.int .i64 2, .int .i64 2, .int .i64 0, .int .i64 0, .int .i64 0, .int .i64 0] 68) = x := ⟨_, rfl⟩
  have hb0 : OBox W0 w.heap.size 2 := by rw [← hW0]; exact heap_alloc_new w _
  have hu0 : Up w W0 := by rw [← hW0]; exact (Up.refl w).alloc _
  have hs0 : W0.heap.size = w.heap.size + 1 := by rw [← hW0]; simp
  have hr0 : Row (W0.alloc (.cells #[.int .i64 0, .int .i64 0] 3)) (some ⟨W0.heap.size, 0, none⟩) 2 (IVal [0, 0]) := row_lit W0 [0, 0] 3
  have hb1 := (((Up.refl W0).alloc (.cells #[.int .i64 0, .int .i64 0] 3)).block w.heap.size (by omega)).trans hb0
  have HB1 := Lib.hid hb1
  have HW0 := Lib.hid hW0
  have HS0 := Lib.hid hs0
  have HU0 := Lib.hid hu0
  have HQ1 := Lib.hid (HP1.out _ w.heap.size _ 2 hr0 hb1)
  clear hW0 hb0 hu0 hs0 hr0 hb1 HP1
  go_enter Try.func53, Try.ntmps53
  go_wp2_with fail
  rw [HW0.out, ← HS0.out]
  refine HQ1.out.mono ?_
  rintro e w1 ⟨⟨ro, s1⟩, ov, hR, rfl, ⟨A, c, N, d, L, e', rfl, r1, r2, r3, _⟩, hU⟩
  obtain ⟨-, hz, hd⟩ := hR
  have hro : ro ≠ none := fun e => (hz e).2 oallz
  obtain ⟨q1, q2, q3, q4, -⟩ := hd hro
  dsimp only at q1 q4
  subst q1
  obtain ⟨h2, h3⟩ := q4 oallz
  have h4 := h3 rfl 1 (Nat.le_refl _) (by rw [h2]; decide)
  obtain ⟨ab, ao, rfl, y0, y1, y2⟩ := r1 1 (by rw [h2]; decide)
  rw [h4] at y0 y1 y2
  simp only [Option.getD_some, Option.isSome_some, h2, Nat.one_mul] at y0 y1 y2 ⊢
  have hb2 := (hU.block _ (Array.getElem?_eq_some_iff.1 HB1.out).1).trans HB1.out
  have HB2 := Lib.hid hb2
  have HU1 := Lib.hid ((HU0.out.trans ((Up.refl _).alloc _)).trans hU)
  have HY := Lib.hid (And.intro y0 (And.intro y1 y2))
  clear r1 r2 r3 h2 h3 h4 hz hd hro q2 q3 q4 hU HQ1 HU0 HS0 HW0 HB1 hb2 y0 y1 y2
  go_wp2_with fail
  obtain ⟨hu3, hb3, hb4⟩ := two_allocO w1 #[.bool true, .slice (some ⟨ab, ao, none⟩) 2 c, .slice N s1.nts.length d, .slice L (shortL s1.loc).length e'] #[.int .i64 0, .int .i64 1, .int .i64 0, .int .i64 0, .int .i64 0] 29 3
  generalize (w1.alloc (.cells #[.bool true, .slice (some ⟨ab, ao, none⟩) 2 c, .slice N s1.nts.length d, .slice L (shortL s1.loc).length e'] 29)).alloc (.cells #[.int .i64 0, .int .i64 1, .int .i64 0, .int .i64 0, .int .i64 0] 3) = W3 at *
  have hrow : Row W3 (some ⟨w1.heap.size + 1, 0, none⟩) 5 (IVal [0, 1, 0, 0, 0]) := fun k hk => ⟨_, _, rfl, by
    rw [cell_of_row _ _ _ _ _ _ hb4]
    have : k = 0 ∨ k = 1 ∨ k = 2 ∨ k = 3 ∨ k = 4 := by omega
    rcases this with rfl | rfl | rfl | rfl | rfl <;> rfl⟩
  have hbx3 := (hu3.block _ (Array.getElem?_eq_some_iff.1 HB2.out).1).trans HB2.out
  refine (HP2.out W3 w.heap.size _ 5 hrow hbx3).mono ?_
  rintro e w4 ⟨⟨ro, s4⟩, ov, hR, rfl, ⟨A', c', N', d', L', e2, rfl, r1, r2, r3, _⟩, hU⟩
  obtain ⟨-, hz, hd⟩ := hR
  have hro : ro = none := by
    cases ro with
    | none => rfl
    | some v => exact absurd ⟨rfl, rfl, rfl⟩ (hd (by simp)).2.2.2.2
  subst hro
  have h6 : s4.acc.length = 6 := (hz rfl).1
  simp only [Option.getD_none, Option.isSome_none, h6]
  have HU4 := Lib.hid (HU1.out.trans (hu3.trans hU))
  have hX1 := (hU.block _ (Array.getElem?_eq_some_iff.1 hb3).1).trans hb3
  have hX2 := (hU.block _ (Array.getElem?_eq_some_iff.1 hbx3).1).trans hbx3
  have m0 := ((hu3.trans hU).cell (p := ⟨ab, ao + 3, none⟩) (cell_lt HY.out.1)).trans HY.out.1
  have m1 : w4.cell? ⟨ab, ao + 3 + 1, none⟩ = some (.int .i64 1) := ((hu3.trans hU).cell (p := ⟨ab, ao + 3 + 1, none⟩) (cell_lt HY.out.2.1)).trans HY.out.2.1
  have m2 := ((hu3.trans hU).cell (p := ⟨ab, ao + 3 + 2, none⟩) (cell_lt HY.out.2.2)).trans HY.out.2.2
  have hX := heap_alloc_new w4 (.cells #[.bool false, .slice A' 6 c', .slice N' s4.nts.length d', .slice L' (shortL s4.loc).length e2] 29)
  have hXU : Up w4 (w4.alloc (.cells #[.bool false, .slice A' 6 c', .slice N' s4.nts.length d', .slice L' (shortL s4.loc).length e2] 29)) := (Up.refl _).alloc _
  generalize hw5 : w4.alloc (.cells #[.bool false, .slice A' 6 c', .slice N' s4.nts.length d', .slice L' (shortL s4.loc).length e2] 29) = w5 at *
  have a1 := (hXU.block _ (Array.getElem?_eq_some_iff.1 hX1).1).trans hX1
  have a2 := (hXU.block _ (Array.getElem?_eq_some_iff.1 hX2).1).trans hX2
  have p0 := cell_of_row _ _ 0 _ _ _ a1
  have p1 := cell_of_row _ _ 1 _ _ _ a1
  have q0 := cell_of_row _ _ 0 _ _ _ a2
  have q1 := cell_of_row _ _ 1 _ _ _ a2
  have q2 := cell_of_row _ _ 2 _ _ _ a2
  have q3 := cell_of_row _ _ 3 _ _ _ a2
  have q4 := cell_of_row _ _ 4 _ _ _ a2
  have q5 := cell_of_row _ _ 5 _ _ _ a2
  have x0 := cell_of_row _ _ 0 _ _ _ hX
  have x1 := cell_of_row _ _ 1 _ _ _ hX
  have m0 := (hXU.cell (p := ⟨ab, ao + 3, none⟩) (cell_lt m0)).trans m0
  have m1 := (hXU.cell (p := ⟨ab, ao + 3 + 1, none⟩) (cell_lt m1)).trans m1
  have m2 := (hXU.cell (p := ⟨ab, ao + 3 + 2, none⟩) (cell_lt m2)).trans m2
  simp only [List.getElem?_toArray, List.getElem?_cons_zero, List.getElem?_cons_succ] at p0 p1 q0 q1 q2 q3 q4 q5 x0 x1
  have hea := oeqAcc_same 1 1 0
  have HU5 := Lib.hid (HU4.out.trans hXU)
  clear r1 r2 r3 hz hd h6 hU hu3 hb3 hb4 hrow hbx3 hX1 hX2 hX hXU a1 a2 HP2 HU1 HU4
  go_wp2_with fail
  refine (HST.out _).mono ?_
  rintro e w6 ⟨A6, rfl, hu6⟩
  have HU6 := Lib.hid (HU5.out.trans hu6)
  clear p0 p1 q0 q1 q2 q3 q4 q5 x0 x1 m0 m1 m2 hu6 HST HU5 hw5
  go_wp2_with fail
  go_ret
  exact ⟨rfl, HU6.out⟩

end Go.Proofs.Ytleebaebihbcdaa
