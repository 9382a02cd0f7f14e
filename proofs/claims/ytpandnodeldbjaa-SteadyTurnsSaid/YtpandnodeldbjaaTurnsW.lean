/-
  The walk of SteadyTurns.
-/
import Derived.Test.YtpandnodeldbjaaTurnsC
import Derived.Test.YtpandnodeldbjaaSteadyW
import Derived.Deep.OwnRows
set_option linter.unusedVariables false
set_option linter.unusedSimpArgs false
namespace Go.Proofs.Ytpandnodeldbjaa
open Go.RowKit

theorem play_turns (l ans : List Int) (A A1 : Option Addr) (c c1 p q : Nat) (w : World) (hbx : BoxesL w p q A l.length c (regC 2 1 0 0 0 0 0))
    (hl : l.length ≤ 100) (hr : Row w A l.length (IVal l)) (hl1 : ans.length = l.length) (hr1 : Row w A1 l.length (IVal ans)) :
    Calls Try.prog 15 #[.func (.func 33) #[] #[.pointer (some ⟨p, 0, none⟩), .pointer (some ⟨q, 0, none⟩)], .slice none 0 0, .slice A1 l.length c1] w fun e w' =>
      ∃ ov s', e = .returned (.tuple #[.int .i64 0, ov]) ∧ OutIs w' ov true s' ∧ Turned s' ∧ s'.acc.length ≤ l.length ∧ Up w w' := by
  obtain ⟨s', e1, h1, a1⟩ := wrP_turned l ⟨ans, [], [], []⟩ ⟨rfl, fun i hi => absurd hi (Nat.not_lt_zero i), rfl⟩ (by simp; omega)
  have h0 := playI 33 #[.pointer (some ⟨p, 0, none⟩), .pointer (some ⟨q, 0, none⟩)] (wrP 1 0 l) [] ans none A1 0 c1 w (fun _ => rfl) (by simp) (by omega) (Row.nil _ _ _) (by rw [hl1]; exact hr1) (by simp) (fun args W => enters Try.func33 (by kernel_rfl) rfl args W)
    (fun W g B hU hg h => clT_any l A c g B p q 2 1 0 0 0 0 0 _ W (hbx.up hU) h hl (hr.up hU) (fun b off e h0 => by
      obtain ⟨b', off', e', h1⟩ := hr 0 h0
      rw [e] at e'
      simp only [Option.some.injEq, Addr.mk.injEq] at e'
      have := cell_lt h1
      omega) (by have := (Array.getElem?_eq_some_iff.1 hbx.1).1; omega) (by have := (Array.getElem?_eq_some_iff.1 hbx.2).1; omega))
  rw [e1, hl1] at h0
  refine h0.mono ?_
  rintro e w' ⟨ov, rfl, ho, hU⟩
  exact ⟨ov, s', rfl, ho, h1, by simpa using a1, hU⟩

set_option maxRecDepth 10000 in
set_option maxHeartbeats 1000000 in
theorem steadyTurns_any (l : List Int) (A : Option Addr) (c : Nat) (w : World) (hA : l.length ≤ 9223372036854775807) (hr : Row w A l.length (IVal l)) :
    Calls Try.prog 6 #[.slice A l.length c] w fun e w' => e = .returned (.bool true) ∧ Up w w' := by
  have hmf : ∀ (fn : Fn) (first cap : Array Value) (w : World), (Instr.makeFunc fn first cap).run Try.prog w = .ok (.func fn first cap) w := fun _ _ _ _ => rfl
  have HAL := Lib.hid (fun W : World => alive11_any W)
  obtain ⟨W0, hW0⟩ : ∃ x, w.alloc (.cells #[.slice A l.length c] 23) = x := ⟨_, rfl⟩
  have hb0 : W0.heap[w.heap.size]? = some (.cells #[.slice A l.length c] 23 (0, 0)) := by rw [← hW0]; exact heap_alloc_new w _
  have hs0 : W0.heap.size = w.heap.size + 1 := by rw [← hW0]; simp
  have hU0 : Up w W0 := by rw [← hW0]; exact (Up.refl w).alloc _
  have a7 := cell_of_row _ _ 0 _ _ _ hb0
  simp only [List.getElem?_toArray, List.getElem?_cons_zero] at a7
  by_cases hs : l.length ≤ 60
  · have z1 : ((60 : Int) < (l.length : Int)) = False := by simp; omega
    have HR := Lib.hid hr
    have i0 : (0 : Int) ≤ (l.length : Int) := by omega
    have hU1 : Up W0 (W0.alloc (.cells (regC 2 1 0 0 0 0 0) 50)) := (Up.refl W0).alloc _
    have hb1 := heap_alloc_new W0 (.cells (regC 2 1 0 0 0 0 0) 50)
    have hb0' := (hU1.block _ (Array.getElem?_eq_some_iff.1 hb0).1).trans hb0
    have a8 := cell_of_row _ _ 0 _ _ _ hb0'
    simp only [List.getElem?_toArray, List.getElem?_cons_zero] at a8
    rw [hs0] at hb1
    have HBX := Lib.hid (show BoxesL (W0.alloc (.cells (regC 2 1 0 0 0 0 0) 50)) w.heap.size (w.heap.size + 1) A l.length c (regC 2 1 0 0 0 0 0) from ⟨hb0', hb1⟩)
    have HU1 := Lib.hid (hU0.trans hU1)
    have HS0 := Lib.hid hs0
    unfold regC at a8
    have hmk : ∀ W : World, (Instr.makeSlice 23 (.int .i64 (l.length : Int)) (.int .i64 (l.length : Int))).run Try.prog W = .ok (.slice (some ⟨W.heap.size, 0, none⟩) l.length l.length) (W.alloc (.cells (madeCells #[.int .i64 0] l.length) 3)) := fun W =>
      run_make_row' 23 3 (.int .i64 0) 8 Try.underlying23 infoInt rfl .i64 .i64 l.length (by omega) (by omega) W
    clear hr hb0 hb1 hb0' hU0 hU1 hs0
    subst hW0
    go_enter Try.func6, Try.ntmps6
    go_wp2_with fail
    have HBX1 : BoxesL ((w.alloc (.cells #[.slice A l.length c] 23)).alloc (.cells #[.int .i64 2, .int .i64 1, .int .i64 0, .int .i64 0, .int .i64 0, .int .i64 0, .int .i64 0] 50)) w.heap.size (w.heap.size + 1) A l.length c (regC 2 1 0 0 0 0 0) := HBX.out
    have HU2 : Up w ((w.alloc (.cells #[.slice A l.length c] 23)).alloc (.cells #[.int .i64 2, .int .i64 1, .int .i64 0, .int .i64 0, .int .i64 0, .int .i64 0, .int .i64 0] 50)) := HU1.out
    have hs1 : ((w.alloc (.cells #[.slice A l.length c] 23)).alloc (.cells #[.int .i64 2, .int .i64 1, .int .i64 0, .int .i64 0, .int .i64 0, .int .i64 0, .int .i64 0] 50)).heap.size = w.heap.size + 1 + 1 := by simp
    clear HBX HU1 a7 a8
    generalize (w.alloc (.cells #[.slice A l.length c] 23)).alloc (.cells #[.int .i64 2, .int .i64 1, .int .i64 0, .int .i64 0, .int .i64 0, .int .i64 0, .int .i64 0] 50) = W1 at *
    have hr1 : Row (W1.alloc (.cells (madeCells #[.int .i64 0] l.length) 3)) (some ⟨w.heap.size + 1 + 1, 0, none⟩) l.length (IVal (List.replicate l.length 0)) := by
      rw [← hs1]
      exact (made_row W1 (.int .i64 0) l.length _).congr fun k hk => by
        unfold IVal
        rw [getD_lt (by simpa using hk)]
        simp
    have hUz : Up W1 (W1.alloc (.cells (madeCells #[.int .i64 0] l.length) 3)) := (Up.refl W1).alloc _
    generalize W1.alloc (.cells (madeCells #[.int .i64 0] l.length) 3) = W2 at *
    refine (play_turns l (List.replicate l.length 0) A _ c l.length w.heap.size (w.heap.size + 1) W2 (HBX1.up hUz) (by omega) (HR.out.up (HU2.trans hUz)) (by simp) hr1).mono ?_
    rintro e w3 ⟨ov, s', rfl, hO, hT, hal, hU3⟩
    obtain ⟨X, cX, N, cN, L, cL, rfl, hx1, _⟩ := hO
    have hbl := ((HBX1.up hUz).up hU3).1
    obtain ⟨pa, hpa⟩ : ∃ x, s'.acc.length = x := ⟨_, rfl⟩
    obtain ⟨pn, hpn⟩ : ∃ x, s'.nts.length = x := ⟨_, rfl⟩
    obtain ⟨pl, hpl⟩ : ∃ x, (shortL s'.loc).length = x := ⟨_, rfl⟩
    rw [hpa, hpn, hpl]
    have hUo : Up w3 (w3.alloc (.cells #[.bool true, .slice X pa cX, .slice N pn cN, .slice L pl cL] 29)) := (Up.refl w3).alloc _
    have hbo := heap_alloc_new w3 (.cells #[.bool true, .slice X pa cX, .slice N pn cN, .slice L pl cL] 29)
    have hb1 := (hUo.block _ (Array.getElem?_eq_some_iff.1 hbl).1).trans hbl
    have k0 := cell_of_row _ _ 0 _ _ _ hbo
    have k1 := cell_of_row _ _ 1 _ _ _ hbo
    have k2 := cell_of_row _ _ 0 _ _ _ hb1
    simp only [List.getElem?_toArray, List.getElem?_cons_zero, List.getElem?_cons_succ] at k0 k1 k2
    have HAC := Lib.hid (show AccRow (w3.alloc (.cells #[.bool true, .slice X pa cX, .slice N pn cN, .slice L pl cL] 29)) X s'.acc from hx1.up hUo)
    have HBO := Lib.hid hbo
    have HUW := Lib.hid (((HU2.trans hUz).trans hU3).trans hUo)
    have HT := Lib.hid hT
    have HPA := Lib.hid hpa
    have z2 : (l.length < pa) = False := by simp; omega
    have z3 : ((l.length : Int) < (pa : Int)) = False := by simp; omega
    have hpb : pa ≤ 1000 := by omega
    clear hUo hbo hb1 hbl hx1 hU3 hUz HU2 HBX1 hr1 hT hal hpa hpn hpl HR hs1 HS0 hmk hmf
    go_wp2_with fail
    obtain ⟨q, hq⟩ : ∃ q, w3.heap.size = q := ⟨_, rfl⟩
    rw [hq] at HBO
    try rw [hq]
    generalize w3.alloc (.cells #[.bool true, .slice X pa cX, .slice N pn cN, .slice L pl cL] 29) = w4 at *
    clear k0 k1 k2 z1 z2 z3
    go_loopw [7] (fun t wr => ∃ j : Nat, j ≤ pa ∧ t = .int .i64 j ∧ wr = w4) (fun t _ => pa - (intOf t).toNat)
    case atStart => exact ⟨0, by omega, rfl, by first | rfl | trivial⟩
    case round =>
      obtain ⟨j, hj, rfl, rfl⟩ := hrel
      have q1 := cell_of_row wr _ 1 _ _ _ HBO.out
      simp only [List.getElem?_toArray, List.getElem?_cons_zero, List.getElem?_cons_succ] at q1
      by_cases hlt : j < pa
      · obtain ⟨ba, offa, rfl, e1, e2, e3⟩ := HAC.out j (by rw [HPA.out]; exact hlt)
        rw [HT.out.acc j (by rw [HPA.out]; exact hlt)] at e1 e2 e3
        simp only at e1 e2 e3
        have hm : ((j : Int) + 1).tmod 2 = ((j : Int) + 1) % 2 := Int.tmod_eq_emod_of_nonneg (by omega)
        have hne := neqAcc_same 2 1 (((j : Int) + 1) % 2)
        have hji : (j : Int) < pa := by omega
        go_wp2_with fail
        go_roundw
        case rel => exact ⟨j + 1, by omega, by go_num, by first | rfl | trivial⟩
        case measure => simp [intOf]; omega
      · go_wp2_with fail
        refine (HAL.out _).mono ?_
        rintro e w9 ⟨rfl, hU9⟩
        have HU9 := Lib.hid (HUW.out.trans hU9)
        clear hU9 HUW HAL
        go_wp2_with fail
        go_ret
        exact ⟨rfl, HU9.out⟩
  · clear hr hs0
    have HU := Lib.hid hU0
    have hgt : (60 : Int) < (l.length : Int) := by omega
    clear hs hb0 hU0
    subst hW0
    go_enter Try.func6, Try.ntmps6
    go_wp2_with fail
    refine (HAL.out _).mono ?_
    rintro e w1 ⟨rfl, hU1⟩
    have HU1 := Lib.hid (HU.out.trans hU1)
    clear hU1 HU HAL a7
    go_wp2_with fail
    go_ret
    exact ⟨rfl, HU1.out⟩

end Go.Proofs.Ytpandnodeldbjaa
