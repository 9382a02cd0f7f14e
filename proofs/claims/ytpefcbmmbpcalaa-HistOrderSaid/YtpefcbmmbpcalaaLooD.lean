/-
  Regular, Safe.
-/
import Derived.Test.YtpefcbmmbpcalaaLooC
set_option linter.unusedVariables false
set_option linter.unusedSimpArgs false
namespace Go.Proofs.Ytpefcbmmbpcalaa
open Go.RowKit

theorem cf25 : ∀ args W, (callFunc 25 args).run Try.prog W = .ok (.enter 25 args) W := by
  intro args W
  go_simp
theorem cf28 : ∀ args W, (callFunc 28 args).run Try.prog W = .ok (.enter 28 args) W := by
  intro args W
  go_simp
def regularP (l : List OpD) (first : Int) : Bool := eachB l (regB (onlyL l true) first)
def safeP (l : List OpD) (first top : Int) : Bool := eachB l (safeB (onlyL l true) first top)

set_option maxRecDepth 10000 in
set_option maxHeartbeats 1000000 in
theorem regular_any (l : List OpD) (A : Option Addr) (c : Nat) (first : Int) (w : World) (hL : l.length ≤ 1000000) (hr : OpRow w A l) :
    Calls Try.prog 14 #[.slice A l.length c, .int .i64 first] w fun e w' => e = .returned (.tuple #[.bool (faultP l == 0 && regularP l first), .int .i64 (faultP l)]) ∧ Up w w' := by
  have HMF := Lib.hid (show ∀ (fn : Fn) (first cap : Array Value) (w : World), (Instr.makeFunc fn first cap).run Try.prog w = .ok (.func fn first cap) w from fun _ _ _ _ => rfl)
  have hh := heap_alloc_new w (.cells #[.int .i64 first] 3)
  have HU := Lib.hid ((Up.refl w).alloc (.cells #[.int .i64 first] 3))
  have HF := Lib.hid (fun W (u : Up w W) => fault_any l A c W hL (hr.up u))
  have HE := Lib.hid (fun W (u : Up w W) (hp : W.cell? ⟨w.heap.size, 0, none⟩ = some (.int .i64 first)) => each_any 25 [.pointer (some ⟨w.heap.size, 0, none⟩)] (regB (onlyL l true) first) l A c W hL (hr.up u) cf25
    (fun A2 c2 r W2 u2 h2 => reg1_any (onlyL l true) A2 c2 w.heap.size first r W2 (Nat.le_trans (onlyL_all_len l true) hL) h2 ((u2.cell (cell_lt hp)).trans hp)))
  have HC := Lib.hid (cell_of_row _ _ 0 _ _ _ hh)
  have HRP : Hid (eachB l (regB (onlyL l true) first) = regularP l first) := Lib.hid rfl
  rw [HRP.out] at HE
  clear hh hr hL
  by_cases hf : faultP l = 0
  · rw [hf] at HF ⊢
    generalize regularP l first = rb at *
    generalize l.length = n at *
    clear hf HRP
    go_enter Try.func14, Try.ntmps14
    go_wp2_with fail
    refine (HF.out _ HU.out).mono ?_
    rintro e w1 ⟨rfl, hu1⟩
    have HU1 := Lib.hid (HU.out.trans hu1)
    have HC1 := Lib.hid ((hu1.cell (cell_lt HC.out)).trans HC.out)
    clear hu1
    go_wp2_with fail
    refine (HE.out _ HU1.out HC1.out).mono ?_
    rintro e w2 ⟨rfl, hu2⟩
    have HU2 := Lib.hid (HU1.out.trans hu2)
    clear hu2
    go_wp2_with fail
    go_ret2
    exact ⟨rfl, HU2.out⟩
  · have hfb : (faultP l != 0) = true := by rw [bne_iff_ne]; exact hf
    have hfe : (faultP l == 0) = false := beq_eq_false_iff_ne.2 hf
    rw [hfe]
    generalize faultP l = fl at *
    generalize l.length = n at *
    clear hf HRP
    go_enter Try.func14, Try.ntmps14
    go_wp2_with fail
    refine (HF.out _ HU.out).mono ?_
    rintro e w1 ⟨rfl, hu1⟩
    have HU1 := Lib.hid (HU.out.trans hu1)
    clear hu1
    go_wp2_with fail
    go_ret2
    exact ⟨rfl, HU1.out⟩

set_option maxRecDepth 10000 in
set_option maxHeartbeats 1000000 in
theorem safe_any (l : List OpD) (A : Option Addr) (c : Nat) (first top : Int) (w : World) (hL : l.length ≤ 1000000) (hr : OpRow w A l) :
    Calls Try.prog 15 #[.slice A l.length c, .int .i64 first, .int .i64 top] w fun e w' => e = .returned (.tuple #[.bool (faultP l == 0 && (decide (0 ≤ top) && safeP l first top)), .int .i64 (if faultP l = 0 then (if top < 0 then 6 else 0) else faultP l)]) ∧ Up w w' := by
  have HMF := Lib.hid (show ∀ (fn : Fn) (first cap : Array Value) (w : World), (Instr.makeFunc fn first cap).run Try.prog w = .ok (.func fn first cap) w from fun _ _ _ _ => rfl)
  obtain ⟨hh, hh2⟩ := heap_two w (.cells #[.int .i64 first] 3) (.cells #[.int .i64 top] 3)
  have HU := Lib.hid (((Up.refl w).alloc (.cells #[.int .i64 first] 3)).alloc (.cells #[.int .i64 top] 3))
  have HF := Lib.hid (fun W (u : Up w W) => fault_any l A c W hL (hr.up u))
  have HE := Lib.hid (fun W (u : Up w W) (hp : W.cell? ⟨w.heap.size, 0, none⟩ = some (.int .i64 first)) (hq : W.cell? ⟨w.heap.size + 1, 0, none⟩ = some (.int .i64 top)) => each_any 28 [.pointer (some ⟨w.heap.size, 0, none⟩), .pointer (some ⟨w.heap.size + 1, 0, none⟩)] (safeB (onlyL l true) first top) l A c W hL (hr.up u) cf28
    (fun A2 c2 r W2 u2 h2 => saf1_any (onlyL l true) A2 c2 w.heap.size (w.heap.size + 1) first top r W2 (Nat.le_trans (onlyL_all_len l true) hL) h2 ((u2.cell (cell_lt hp)).trans hp) ((u2.cell (cell_lt hq)).trans hq)))
  have HC := Lib.hid (cell_of_row _ _ 0 _ _ _ hh)
  have HD := Lib.hid (cell_of_row _ _ 0 _ _ _ hh2)
  have HRP : Hid (eachB l (safeB (onlyL l true) first top) = safeP l first top) := Lib.hid rfl
  rw [HRP.out] at HE
  clear hh hh2 hr hL
  by_cases hf : faultP l = 0
  · rw [if_pos hf, hf]
    rw [hf] at HF
    generalize safeP l first top = rb at *
    generalize l.length = n at *
    clear hf HRP
    by_cases ht : top < 0
    · rw [if_pos ht, decide_eq_false (show ¬ 0 ≤ top by omega)]
      go_enter Try.func15, Try.ntmps15
      go_wp2_with fail
      refine (HF.out _ HU.out).mono ?_
      rintro e w1 ⟨rfl, hu1⟩
      have HU1 := Lib.hid (HU.out.trans hu1)
      have HD1 := Lib.hid ((hu1.cell (cell_lt HD.out)).trans HD.out)
      have hd1 := HD1.out
      simp only [List.getElem?_toArray, List.getElem?_cons_zero] at hd1
      clear hu1
      go_wp2_with fail
      go_ret2
      exact ⟨rfl, HU1.out⟩
    · have ht0 : 0 ≤ top := by omega
      rw [if_neg ht, decide_eq_true ht0]
      clear ht
      go_enter Try.func15, Try.ntmps15
      go_wp2_with fail
      refine (HF.out _ HU.out).mono ?_
      rintro e w1 ⟨rfl, hu1⟩
      have HU1 := Lib.hid (HU.out.trans hu1)
      have HC1 := Lib.hid ((hu1.cell (cell_lt HC.out)).trans HC.out)
      have HD1 := Lib.hid ((hu1.cell (cell_lt HD.out)).trans HD.out)
      have hd1 := HD1.out
      simp only [List.getElem?_toArray, List.getElem?_cons_zero] at hd1
      clear hu1
      go_wp2_with fail
      refine (HE.out _ HU1.out HC1.out HD1.out).mono ?_
      rintro e w2 ⟨rfl, hu2⟩
      have HU2 := Lib.hid (HU1.out.trans hu2)
      clear hu2 hd1
      go_wp2_with fail
      go_ret2
      exact ⟨rfl, HU2.out⟩
  · have hfb : (faultP l != 0) = true := by rw [bne_iff_ne]; exact hf
    have hfe : (faultP l == 0) = false := beq_eq_false_iff_ne.2 hf
    rw [hfe, if_neg hf]
    generalize faultP l = fl at *
    generalize l.length = n at *
    clear hf HRP
    go_enter Try.func15, Try.ntmps15
    go_wp2_with fail
    refine (HF.out _ HU.out).mono ?_
    rintro e w1 ⟨rfl, hu1⟩
    have HU1 := Lib.hid (HU.out.trans hu1)
    clear hu1
    go_wp2_with fail
    go_ret2
    exact ⟨rfl, HU1.out⟩

end Go.Proofs.Ytpefcbmmbpcalaa
