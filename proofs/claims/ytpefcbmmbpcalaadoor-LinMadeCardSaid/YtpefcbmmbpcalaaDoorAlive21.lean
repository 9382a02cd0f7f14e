/-
  Chapter 21's alive.
-/
import Derived.Test.YtpefcbmmbpcalaaDoorSearch
import Derived.Test.YtpefcbmmbpcalaaDoorRight
import Derived.Test.YtpefcbmmbpcalaaDoorAlive20
set_option linter.unusedVariables false
set_option linter.unusedSimpArgs false
namespace Go.Proofs.YtpefcbmmbpcalaaDoor
open Go.RowKit

def mW : OpD := ⟨0, 1, true, 1, 0⟩
def mD : OpD := ⟨2, 3, false, 0, 1⟩
def mE : OpD := ⟨2, 3, false, 1, 1⟩
theorem mno : ¬ Comp [mW, mD] 0 0 := by
  intro c
  cases c with
  | all _ _ h => exact absurd h (by decide)
  | pick _ _ i hi ht c =>
    have e : nextL [mW, mD] 0 = [0] := by decide
    rw [e] at hi
    obtain rfl := List.mem_singleton.1 hi
    rw [show withN 0 0 = 1 by decide, show afterV ([mW, mD].getD 0 op0) 0 = 1 by decide] at c
    cases c with
    | all _ _ h => exact absurd h (by decide)
    | pick _ _ i hi ht c =>
      have e : nextL [mW, mD] 1 = [1] := by decide
      rw [e] at hi
      obtain rfl := List.mem_singleton.1 hi
      exact absurd ht (by decide)
theorem myes : Comp [mW, mE] 0 0 := .pick 0 0 0 (by decide) (by decide) (.pick _ _ 1 (by decide) (by decide) (.all _ _ (by decide)))
theorem mright {F : List Nat} (h : rightP [mW, mE] 0 (iL F) = true) : F = [0, 1] := by
  have hr : respP [mW, mE] (iL F) = true := by
    unfold rightP at h
    rw [Bool.and_eq_true] at h
    exact h.1
  have hin : ∀ k, k < F.length → F.getD k 0 < 2 := fun k hk => by
    have := respP_in hr (k := k) (by rw [iL_len]; exact hk)
    rw [iL_get] at this
    have h2 := this.2
    have h3 : ((F.getD k 0 : Nat) : Int) < 2 := h2
    omega
  have hrow : ∀ i q, i < F.length → q < i → F.getD q 0 ≠ F.getD i 0 := fun i q hi hq => by
    unfold respP at hr
    rw [Bool.and_eq_true, Bool.and_eq_true] at hr
    have h1 := all_at hr.2.1 (k := i) (by rw [iL_len]; exact hi)
    unfold rowB rowK at h1
    have h2 := all_at h1 hq
    unfold pairB at h2
    rw [Bool.and_eq_true, iL_get, iL_get] at h2
    intro e
    rw [e] at h2
    simp at h2
  match F, h, hin, hrow with
  | [], h, _, _ => exact absurd h (by decide)
  | [a], h, hin, _ =>
    have h0 : a < 2 := hin 0 (by simp)
    obtain rfl | rfl : a = 0 ∨ a = 1 := by omega
    · exact absurd h (by decide)
    · exact absurd h (by decide)
  | [a, b], h, hin, hrow =>
    have h0 : a < 2 := hin 0 (by simp)
    have h1 : b < 2 := hin 1 (by simp)
    have h2 : a ≠ b := hrow 1 0 (by simp) (by decide)
    obtain ⟨rfl, rfl⟩ | ⟨rfl, rfl⟩ : (a = 0 ∧ b = 1) ∨ (a = 1 ∧ b = 0) := by omega
    · rfl
    · exact absurd h (by decide)
  | a :: b :: c :: F, h, hin, hrow =>
    have h0 : a < 2 := hin 0 (by simp)
    have h1 : b < 2 := hin 1 (by simp)
    have h2 : c < 2 := hin 2 (by simp)
    have h3 : a ≠ b := hrow 1 0 (by simp) (by decide)
    have h4 : a ≠ c := hrow 2 0 (by simp) (by decide)
    have h5 : b ≠ c := hrow 2 1 (by simp) (by decide)
    omega
theorem mvals {l : List OpD} {first : Int} (h : (first :: l.map (·.val)).all (fun v => (Lit.int .i64 v).wf) = true) : ValsOk l first := fun v hv => by
  rw [List.all_eq_true] at h
  exact h v hv

theorem row_wd (W : World) : OpRow (W.alloc (.cells #[.int .i64 0, .int .i64 1, .bool true, .int .i64 1, .int .i64 0, .int .i64 2, .int .i64 3, .bool false, .int .i64 0, .int .i64 1] 28)) (some ⟨W.heap.size, 0, none⟩) [mW, mD] := by
  have h := oprow_lit W [mW, mD] 28
  rw [show (ocells [mW, mD]).toArray = #[.int .i64 0, .int .i64 1, .bool true, .int .i64 1, .int .i64 0, .int .i64 2, .int .i64 3, .bool false, .int .i64 0, .int .i64 1] from rfl] at h
  exact h
theorem row_we (W : World) : OpRow (W.alloc (.cells #[.int .i64 0, .int .i64 1, .bool true, .int .i64 1, .int .i64 0, .int .i64 2, .int .i64 3, .bool false, .int .i64 1, .int .i64 1] 28)) (some ⟨W.heap.size, 0, none⟩) [mW, mE] := by
  have h := oprow_lit W [mW, mE] 28
  rw [show (ocells [mW, mE]).toArray = #[.int .i64 0, .int .i64 1, .bool true, .int .i64 1, .int .i64 0, .int .i64 2, .int .i64 3, .bool false, .int .i64 1, .int .i64 1] from rfl] at h
  exact h
theorem row_ew (W : World) : OpRow (W.alloc (.cells #[.int .i64 2, .int .i64 3, .bool false, .int .i64 1, .int .i64 1, .int .i64 0, .int .i64 1, .bool true, .int .i64 1, .int .i64 0] 28)) (some ⟨W.heap.size, 0, none⟩) [mE, mW] := by
  have h := oprow_lit W [mE, mW] 28
  rw [show (ocells [mE, mW]).toArray = #[.int .i64 2, .int .i64 3, .bool false, .int .i64 1, .int .i64 1, .int .i64 0, .int .i64 1, .bool true, .int .i64 1, .int .i64 0] from rfl] at h
  exact h

set_option maxRecDepth 10000 in
set_option maxHeartbeats 2000000 in
theorem alive21_any (w : World) (hT : TabT w) : Calls Tryd.prog 19 #[] w fun e w' => e = .returned (.bool true) ∧ Up w w' := by
  have HH1 := Lib.hid (fun A c W h t => lhas_any [mW, mD] A c 0 W (by decide) t h (mvals (by decide)))
  have HH2 := Lib.hid (fun A c W h t => lhas_any [mW, mE] A c 0 W (by decide) t h (mvals (by decide)))
  have HF2 := Lib.hid (fun A c W h t => lfind_any [mW, mE] A c 0 W (by decide) t h (mvals (by decide)))
  have HH3 := Lib.hid (fun A c W h t => lhas_any [mE, mW] A c 0 W (by decide) t h (mvals (by decide)))
  have HRI := Lib.hid (fun A B c d W h k g1 g2 g3 => right_any [mW, mE] [0, 1] A B c d 0 W (by decide) g1 g2 h k g3)
  rw [show checkP [mW, mD] = 0 by decide, show [mW, mD].length = 2 from rfl] at HH1
  rw [show checkP [mW, mE] = 0 by decide, show [mW, mE].length = 2 from rfl] at HH2 HF2
  rw [show checkP [mE, mW] = 1 by decide, show [mE, mW].length = 2 from rfl] at HH3
  rw [show (checkP [mW, mE] == 0 && rightP [mW, mE] 0 [0, 1]) = true by decide, show [mW, mE].length = 2 from rfl] at HRI
  obtain ⟨hx, hy⟩ := heap_two w (.cells #[.int .i64 0, .int .i64 1, .bool true, .int .i64 1, .int .i64 0] 28) (.cells #[.int .i64 2, .int .i64 3, .bool false, .int .i64 0, .int .i64 1] 28)
  have HU0 := Lib.hid (((Up.refl w).alloc (.cells #[.int .i64 0, .int .i64 1, .bool true, .int .i64 1, .int .i64 0] 28)).alloc (.cells #[.int .i64 2, .int .i64 3, .bool false, .int .i64 0, .int .i64 1] 28))
  have HX := Lib.hid hx
  have HY := Lib.hid hy
  have HT := Lib.hid hT
  obtain ⟨x0, x1, x2, x3, x4⟩ := box_cells hx
  obtain ⟨y0, y1, y2, y3, y4⟩ := box_cells hy
  clear hx hy hT
  go_enter Tryd.func19, Tryd.ntmps19
  go_wp2_with fail
  have hrw := row_wd ((w.alloc (.cells #[.int .i64 0, .int .i64 1, .bool true, .int .i64 1, .int .i64 0] 28)).alloc (.cells #[.int .i64 2, .int .i64 3, .bool false, .int .i64 0, .int .i64 1] 28))
  rw [show ((w.alloc (.cells #[.int .i64 0, .int .i64 1, .bool true, .int .i64 1, .int .i64 0] 28)).alloc (.cells #[.int .i64 2, .int .i64 3, .bool false, .int .i64 0, .int .i64 1] 28)).heap.size = w.heap.size + 1 + 1 by simp] at hrw
  generalize (w.alloc (.cells #[.int .i64 0, .int .i64 1, .bool true, .int .i64 1, .int .i64 0] 28)).alloc (.cells #[.int .i64 2, .int .i64 3, .bool false, .int .i64 0, .int .i64 1] 28) = W0 at *
  have HRW := Lib.hid hrw
  clear hrw
  have HA1 := Lib.hid ((Up.refl W0).alloc (.cells #[.int .i64 0, .int .i64 1, .bool true, .int .i64 1, .int .i64 0, .int .i64 2, .int .i64 3, .bool false, .int .i64 0, .int .i64 1] 28))
  refine (HH1.out (some ⟨w.heap.size + 1 + 1, 0, none⟩) 2 (W0.alloc (.cells #[.int .i64 0, .int .i64 1, .bool true, .int .i64 1, .int .i64 0, .int .i64 2, .int .i64 3, .bool false, .int .i64 0, .int .i64 1] 28)) HRW.out (HT.out.up (HU0.out.trans HA1.out))).mono ?_
  rintro e w1 ⟨ok, rfl, _, hk, hu1⟩
  obtain rfl : ok = false := by
    cases ok
    · rfl
    · exact absurd ((hk (by first | rfl | trivial)).1 rfl) mno
  have HU1 := Lib.hid (HU0.out.trans (HA1.out.trans hu1))
  have HX1 := Lib.hid (box_up HX.out (HA1.out.trans hu1))
  have HY1 := Lib.hid (box_up HY.out (HA1.out.trans hu1))
  clear hk hu1 x0 x1 x2 x3 x4 y0 y1 y2 y3 y4 HX HY HU0 HA1 HH1
  obtain ⟨x0, x1, x2, x3, x4⟩ := box_cells HX1.out
  obtain ⟨y0, y1, y2, y3, y4⟩ := box_cells HY1.out
  have yf : w1.frozen? ⟨w.heap.size + 1, 3, none⟩ = false := by simp [World.frozen?, HY1.out]
  have HX2 : Hid ((w1.setCell ⟨w.heap.size + 1, 3, none⟩ (.int .i64 1)).heap[w.heap.size]? = some (.cells #[.int .i64 0, .int .i64 1, .bool true, .int .i64 1, .int .i64 0] 28 (0, 0))) := Lib.hid ((heap_setCell_other _ _ _ _ (by show w.heap.size ≠ w.heap.size + 1; omega)).trans HX1.out)
  have HY2 : Hid ((w1.setCell ⟨w.heap.size + 1, 3, none⟩ (.int .i64 1)).heap[w.heap.size + 1]? = some (.cells #[.int .i64 2, .int .i64 3, .bool false, .int .i64 1, .int .i64 1] 28 (0, 0))) := Lib.hid (by rw [heap_setCell_same _ _ 3 _ _ _ HY1.out]; rfl)
  have HU2 : Hid (Up w (w1.setCell ⟨w.heap.size + 1, 3, none⟩ (.int .i64 1))) := Lib.hid (Below.setCell HU1.out (by show w.heap.size ≤ w.heap.size + 1; omega) _)
  go_upto_region 4 with fail
  generalize w1.setCell ⟨w.heap.size + 1, 3, none⟩ (.int .i64 1) = w2 at *
  clear x0 x1 x2 x3 x4 y0 y1 y2 y3 y4 yf HX1 HY1 HU1
  obtain ⟨x0, x1, x2, x3, x4⟩ := box_cells HX2.out
  obtain ⟨y0, y1, y2, y3, y4⟩ := box_cells HY2.out
  go_wp2_with fail
  have HA2 := Lib.hid ((Up.refl w2).alloc (.cells #[.int .i64 0, .int .i64 1, .bool true, .int .i64 1, .int .i64 0, .int .i64 2, .int .i64 3, .bool false, .int .i64 1, .int .i64 1] 28))
  refine (HH2.out (some ⟨w2.heap.size, 0, none⟩) 2 (w2.alloc (.cells #[.int .i64 0, .int .i64 1, .bool true, .int .i64 1, .int .i64 0, .int .i64 2, .int .i64 3, .bool false, .int .i64 1, .int .i64 1] 28)) (row_we w2) (HT.out.up (HU2.out.trans HA2.out))).mono ?_
  rintro e w3 ⟨ok, rfl, _, hk, hu3⟩
  obtain rfl : ok = true := (hk (by first | rfl | trivial)).2 myes
  have HU3 := Lib.hid (HU2.out.trans (HA2.out.trans hu3))
  have HX3 := Lib.hid (box_up HX2.out (HA2.out.trans hu3))
  have HY3 := Lib.hid (box_up HY2.out (HA2.out.trans hu3))
  clear hk hu3 x0 x1 x2 x3 x4 y0 y1 y2 y3 y4 HX2 HY2 HU2 HA2 HH2
  obtain ⟨x0, x1, x2, x3, x4⟩ := box_cells HX3.out
  obtain ⟨y0, y1, y2, y3, y4⟩ := box_cells HY3.out
  go_wp2_with fail
  have HA3 := Lib.hid ((Up.refl w3).alloc (.cells #[.int .i64 0, .int .i64 1, .bool true, .int .i64 1, .int .i64 0, .int .i64 2, .int .i64 3, .bool false, .int .i64 1, .int .i64 1] 28))
  refine (HF2.out (some ⟨w3.heap.size, 0, none⟩) 2 (w3.alloc (.cells #[.int .i64 0, .int .i64 1, .bool true, .int .i64 1, .int .i64 0, .int .i64 2, .int .i64 3, .bool false, .int .i64 1, .int .i64 1] 28)) (row_we w3) (HT.out.up (HU3.out.trans HA3.out))).mono ?_
  rintro e w4 ⟨vf, F, er, rfl, ho4, hu4, _, hk⟩
  obtain ⟨rfl, hri⟩ := (hk (by first | rfl | trivial)).1 myes
  obtain rfl := mright hri
  obtain ⟨A4, c4, rfl, hr4, hc4, hm4, hn4⟩ := n_row2 ho4
  rw [show iL [0, 1] = [0, 1] from rfl] at hr4 hc4 ⊢
  have HR4 := Lib.hid hr4
  have HC4 := Lib.hid hc4
  have HM4 := Lib.hid hm4
  have HN4 := Lib.hid hn4
  have HU4 := Lib.hid (HU3.out.trans (HA3.out.trans hu4))
  have HX4 := Lib.hid (box_up HX3.out (HA3.out.trans hu4))
  have HY4 := Lib.hid (box_up HY3.out (HA3.out.trans hu4))
  clear hk hri ho4 hu4 hr4 hc4 hm4 hn4 x0 x1 x2 x3 x4 y0 y1 y2 y3 y4 HX3 HY3 HU3 HA3 HF2
  obtain ⟨x0, x1, x2, x3, x4⟩ := box_cells HX4.out
  obtain ⟨y0, y1, y2, y3, y4⟩ := box_cells HY4.out
  go_wp2_with fail
  have HA4 := Lib.hid ((Up.refl w4).alloc (.cells #[.int .i64 2, .int .i64 3, .bool false, .int .i64 1, .int .i64 1, .int .i64 0, .int .i64 1, .bool true, .int .i64 1, .int .i64 0] 28))
  refine (HH3.out (some ⟨w4.heap.size, 0, none⟩) 2 (w4.alloc (.cells #[.int .i64 2, .int .i64 3, .bool false, .int .i64 1, .int .i64 1, .int .i64 0, .int .i64 1, .bool true, .int .i64 1, .int .i64 0] 28)) (row_ew w4) (HT.out.up (HU4.out.trans HA4.out))).mono ?_
  rintro e w5 ⟨ok, rfl, hk, _, hu5⟩
  obtain rfl : ok = false := hk (by first | decide | trivial)
  have HS5 := Lib.hid (HA4.out.trans hu5)
  have HU5 := Lib.hid (HU4.out.trans HS5.out)
  have HX5 := Lib.hid (box_up HX4.out HS5.out)
  have HY5 := Lib.hid (box_up HY4.out HS5.out)
  clear hk hu5 x0 x1 x2 x3 x4 y0 y1 y2 y3 y4 HX4 HY4 HU4 HA4 HH3
  obtain ⟨x0, x1, x2, x3, x4⟩ := box_cells HX5.out
  obtain ⟨y0, y1, y2, y3, y4⟩ := box_cells HY5.out
  go_wp2_with fail
  have HA5 := Lib.hid ((Up.refl w5).alloc (.cells #[.int .i64 0, .int .i64 1] 3))
  refine (ints_any [0, 1] [0, 1] A4 (some ⟨w5.heap.size, 0, none⟩) c4 2 (w5.alloc (.cells #[.int .i64 0, .int .i64 1] 3)) (by decide) (by decide) (HR4.out.up (HS5.out.trans HA5.out)) (row_lit w5 [0, 1] 3)).mono ?_
  rintro e w6 ⟨rfl, hu6⟩
  have HS6 := Lib.hid (HS5.out.trans (HA5.out.trans hu6))
  have HS56 := Lib.hid (HA5.out.trans hu6)
  have HX6 := Lib.hid (box_up HX5.out HS56.out)
  have HY6 := Lib.hid (box_up HY5.out HS56.out)
  have HU6 := Lib.hid (HU5.out.trans HS56.out)
  clear hu6 x0 x1 x2 x3 x4 y0 y1 y2 y3 y4 HX5 HY5 HA5
  obtain ⟨x0, x1, x2, x3, x4⟩ := box_cells HX6.out
  obtain ⟨y0, y1, y2, y3, y4⟩ := box_cells HY6.out
  go_wp2_with fail
  have HA6 := Lib.hid ((Up.refl w6).alloc (.cells #[.int .i64 0, .int .i64 1, .bool true, .int .i64 1, .int .i64 0, .int .i64 2, .int .i64 3, .bool false, .int .i64 1, .int .i64 1] 28))
  refine (HRI.out (some ⟨w6.heap.size, 0, none⟩) A4 2 c4 (w6.alloc (.cells #[.int .i64 0, .int .i64 1, .bool true, .int .i64 1, .int .i64 0, .int .i64 2, .int .i64 3, .bool false, .int .i64 1, .int .i64 1] 28)) (row_we w6) (HR4.out.up (HS6.out.trans HA6.out)) HC4.out HM4.out HN4.out).mono ?_
  rintro e w7 ⟨rfl, hu7⟩
  have HU7 := Lib.hid (HU6.out.trans (HA6.out.trans hu7))
  clear hu7
  go_wp2_with fail
  go_ret
  exact ⟨rfl, HU7.out⟩

end Go.Proofs.YtpefcbmmbpcalaaDoor
