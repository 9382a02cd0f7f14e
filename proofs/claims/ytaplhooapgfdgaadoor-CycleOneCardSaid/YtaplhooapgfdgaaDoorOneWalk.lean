/-
  The law CycleOne: plain facts, and its walk.
-/
import Derived.Test.YtaplhooapgfdgaaDoorCycE
set_option linter.unusedVariables false
set_option linter.unusedSimpArgs false
namespace Go.Proofs.YtaplhooapgfdgaaDoor
open Go.RowKit

theorem beats_one (a b : Int) (ha : digB a = true) (hb : digB b = true) (hne : a ≠ b) : beatsI a b = !beatsI b a := by
  rcases digB_cases a ha with rfl | rfl | rfl <;> rcases digB_cases b hb with rfl | rfl | rfl <;> first | rfl | exact absurd rfl hne

theorem domL_self (a : List Int) : domL a a = false := by
  induction a with
  | nil => rfl
  | cons x a ih => simp [domL, ih]

theorem domL_one : ∀ (a b : List Int), a.length = b.length → a.all digB = true → b.all digB = true → a ≠ b → domL a b = !domL b a
  | [], [], _, _, _, h => absurd rfl h
  | [], _ :: _, h, _, _, _ => by simp at h
  | _ :: _, [], h, _, _, _ => by simp at h
  | x :: a, y :: b, hl, ha, hb, hne => by
    simp only [List.all_cons, Bool.and_eq_true] at ha hb
    by_cases hxy : x = y
    · subst hxy
      simp only [domL, if_true]
      exact domL_one a b (by simpa using hl) ha.2 hb.2 (fun h => hne (by rw [h]))
    · simp only [domL]
      rw [if_neg hxy, if_neg (fun h => hxy h.symm)]
      exact beats_one x y ha.1 hb.1 hxy

theorem domI_one (a b : List Int) (ha : fineL a = true) (hb : fineL b = true) (hl : a.length = b.length) :
    (a = b ∧ domI a b = false ∧ domI b a = false) ∨ (a ≠ b ∧ domI a b = true ∧ domI b a = false) ∨ (a ≠ b ∧ domI a b = false ∧ domI b a = true) := by
  have e1 : domI a b = domL a b := by unfold domI; rw [ha, hb, beq_iff_eq.2 hl]; simp
  have e2 : domI b a = domL b a := by unfold domI; rw [ha, hb, beq_iff_eq.2 hl.symm]; simp
  by_cases h : a = b
  · subst h
    exact .inl ⟨rfl, by rw [e1]; exact domL_self a, by rw [e1]; exact domL_self a⟩
  · have ha' : a.all digB = true := by unfold fineL at ha; rw [Bool.and_eq_true] at ha; exact ha.2
    have hb' : b.all digB = true := by unfold fineL at hb; rw [Bool.and_eq_true] at hb; exact hb.2
    have hh := domL_one a b hl ha' hb' h
    rw [e1, e2]
    cases hx : domL b a
    · rw [hx] at hh; exact .inr (.inl ⟨h, hh, rfl⟩)
    · rw [hx] at hh; exact .inr (.inr ⟨h, hh, rfl⟩)

/-- The end: same, dominates, is dominated. -/
theorem one_core (a b : List Int) (A B : Option Addr) (c d n : Nat) (same x y : Bool) (w : World) (hr : Ring w) (hn : n ≤ 8) (ha : a.length = n) (hb : b.length = n) (hfa : fineL a = true) (hfb : fineL b = true)
    (hra : Row w A n (IVal a)) (hrb : Row w B n (IVal b)) (hs : decide (a = b) = same) (hx : domI a b = x) (hy : domI b a = y) (hxy : (same = true ∧ x = false ∧ y = false) ∨ (same = false ∧ x = true ∧ y = false) ∨ (same = false ∧ x = false ∧ y = true)) :
    Calls Tryd.prog 5 #[.slice A n c, .slice B n d] w fun e w' => e = .returned (.bool true) ∧ Up w w' := by
  have c1 := fine_any a A c w (by omega) (by rw [ha]; exact hra)
  have c2 := fine_any b B d w (by omega) (by rw [hb]; exact hrb)
  have c3 := upBase (w0 := w) (fun W h => ints_any a b A B c d W (by omega) (by omega) (by rw [ha]; exact hra.up h) (by rw [hb]; exact hrb.up h))
  have c4 := upBase (w0 := w) (fun W h => dom_any a b A B c d W (hr.up h) (by omega) (by omega) (by rw [ha]; exact hra.up h) (by rw [hb]; exact hrb.up h))
  have c5 := upBase (w0 := w) (fun W h => dom_any b a B A d c W (hr.up h) (by omega) (by omega) (by rw [hb]; exact hrb.up h) (by rw [ha]; exact hra.up h))
  have c6 := upBase (w0 := w) (fun W h => alive_any W (hr.up h))
  have c7 := fun (k : Int) (W : World) (h : Up w W) => next_any k W (hr.up h)
  have c8 := fun (k l : Int) (W : World) (h : Up w W) => beats_any k l W (hr.up h)
  rw [ha, hfa] at c1
  rw [hb, hfb] at c2
  rw [ha, hb, hs] at c3
  rw [ha, hb, hx] at c4
  rw [ha, hb, hy] at c5
  have C1 := Lib.hid c1
  have C2 := Lib.hid c2
  have C3 := Lib.hid c3
  have C4 := Lib.hid c4
  have C5 := Lib.hid c5
  have C6 := Lib.hid c6
  have C7 := Lib.hid c7
  have C8 := Lib.hid c8
  clear c1 c2 c3 c4 c5 c6 c7 c8 hra hrb hs hx hy hfa hfb ha hb hr
  rcases hxy with ⟨rfl, rfl, rfl⟩ | ⟨rfl, rfl, rfl⟩ | ⟨rfl, rfl, rfl⟩
  all_goals
    go_enter Tryd.func5, Tryd.ntmps5
    go_wp2_with fail
    refine C1.out.mono ?_
    rintro e w' ⟨rfl, rfl⟩
    go_wp2_with fail
    refine C2.out.mono ?_
    rintro e w' ⟨rfl, rfl⟩
    go_wp2_with fail
    refine (C3.out _ (Up.refl _)).mono ?_
    rintro e w1 ⟨rfl, hu⟩
    have HU := Lib.hid hu
    clear hu
    go_wp2_with fail
    refine (C4.out _ HU.out).mono ?_
    clear HU
    rintro e w2 ⟨rfl, hu⟩
    have HU := Lib.hid hu
    clear hu
    go_wp2_with fail
    refine (C5.out _ HU.out).mono ?_
    clear HU
    rintro e w3 ⟨rfl, hu⟩
    have HU := Lib.hid hu
    clear hu
    go_wp2_with fail
    go_loop [8] (fun t => ∃ k : Nat, k ≤ 3 ∧ t = .int .i64 k) (fun t => 3 - (intOf t).toNat)
    case atStart => exact ⟨0, by omega, rfl⟩
    case round =>
      obtain ⟨k, hk, rfl⟩ := hrel
      by_cases hlt : k < 3
      · rcases (show k = 0 ∨ k = 1 ∨ k = 2 by omega) with rfl | rfl | rfl
        all_goals
          clear hlt hk
          go_wp2_with fail
          refine (C7.out _ _ HU.out).mono ?_
          rintro e w' ⟨rfl, rfl⟩
          go_wp2_with fail
          refine (C8.out _ _ _ HU.out).mono ?_
          rintro e w' ⟨rfl, rfl⟩
          first
            | rw [show beatsI (nextI 0) 0 = true from rfl]
            | rw [show beatsI (nextI 1) 1 = true from rfl]
            | rw [show beatsI (nextI 2) 2 = true from rfl]
          go_wp2_with fail
          refine (C7.out _ _ HU.out).mono ?_
          rintro e w' ⟨rfl, rfl⟩
          go_wp2_with fail
          refine (C7.out _ _ HU.out).mono ?_
          rintro e w' ⟨rfl, rfl⟩
          go_wp2_with fail
          refine (C7.out _ _ HU.out).mono ?_
          rintro e w' ⟨rfl, rfl⟩
          first
            | rw [show nextI (nextI (nextI 0)) = 0 from rfl]
            | rw [show nextI (nextI (nextI 1)) = 1 from rfl]
            | rw [show nextI (nextI (nextI 2)) = 2 from rfl]
          go_wp2_with fail
          go_round
          case rel => first | exact ⟨1, by decide, rfl⟩ | exact ⟨2, by decide, rfl⟩ | exact ⟨3, by decide, rfl⟩
          case measure => simp [intOf]
      · obtain rfl : k = 3 := by omega
        clear hlt hk
        go_wp2_with fail
        refine (C6.out _ HU.out).mono ?_
        clear HU
        rintro e w4 ⟨rfl, hu⟩
        have HU := Lib.hid hu
        clear hu
        go_wp2_with fail
        go_ret
        exact ⟨rfl, HU.out⟩

/-- The other case: they are no rows, or not equally long. -/
theorem one_other (a b : List Int) (A B : Option Addr) (c d : Nat) (w : World) (hr : Ring w) (ha : a.length ≤ 9223372036854775807) (hb : b.length ≤ 9223372036854775807)
    (hra : Row w A a.length (IVal a)) (hrb : Row w B b.length (IVal b)) (h : ¬ (fineL a = true ∧ fineL b = true ∧ a.length = b.length)) :
    Calls Tryd.prog 5 #[.slice A a.length c, .slice B b.length d] w fun e w' => e = .returned (.bool true) ∧ Up w w' := by
  have c1 := fine_any a A c w ha hra
  have c2 := fine_any b B d w hb hrb
  have c4 := upBase (w0 := w) (fun W h => dom_any a b A B c d W (hr.up h) ha hb (hra.up h) (hrb.up h))
  have c6 := upBase (w0 := w) (fun W h => alive_any W (hr.up h))
  have hd : domI a b = false := by
    unfold domI
    cases h1 : fineL a
    · rfl
    · cases h2 : fineL b
      · rfl
      · rw [beq_eq_false_iff_ne.2 (fun h3 => h ⟨h1, h2, h3⟩)]; rfl
  rw [hd] at c4
  have C4 := Lib.hid c4
  have C6 := Lib.hid c6
  clear c4 c6 hd hra hrb hr
  cases h1 : fineL a
  · rw [h1] at c1
    have C1 := Lib.hid c1
    clear c1 c2 h1 h
    generalize a.length = n at *
    generalize b.length = m at *
    go_enter Tryd.func5, Tryd.ntmps5
    go_wp2_with fail
    refine C1.out.mono ?_
    rintro e w' ⟨rfl, rfl⟩
    go_wp2_with fail
    refine (C4.out _ (Up.refl _)).mono ?_
    rintro e w1 ⟨rfl, hu⟩
    have HU := Lib.hid hu
    clear hu
    go_wp2_with fail
    refine (C6.out _ HU.out).mono ?_
    clear HU
    rintro e w1 ⟨rfl, hu⟩
    have HU := Lib.hid hu
    clear hu
    go_wp2_with fail
    go_ret
    exact ⟨rfl, HU.out⟩
  · rw [h1] at c1
    cases h2 : fineL b
    · rw [h2] at c2
      have C1 := Lib.hid c1
      have C2 := Lib.hid c2
      clear c1 c2 h1 h2 h
      generalize a.length = n at *
      generalize b.length = m at *
      go_enter Tryd.func5, Tryd.ntmps5
      go_wp2_with fail
      refine C1.out.mono ?_
      rintro e w' ⟨rfl, rfl⟩
      go_wp2_with fail
      refine C2.out.mono ?_
      rintro e w' ⟨rfl, rfl⟩
      go_wp2_with fail
      refine (C4.out _ (Up.refl _)).mono ?_
      rintro e w1 ⟨rfl, hu⟩
      have HU := Lib.hid hu
      clear hu
      go_wp2_with fail
      refine (C6.out _ HU.out).mono ?_
      clear HU
      rintro e w1 ⟨rfl, hu⟩
      have HU := Lib.hid hu
      clear hu
      go_wp2_with fail
      go_ret
      exact ⟨rfl, HU.out⟩
    · rw [h2] at c2
      have hne : ((a.length : Int) != (b.length : Int)) = true := by rw [bne_iff_ne]; intro h3; exact h ⟨h1, h2, by omega⟩
      have C1 := Lib.hid c1
      have C2 := Lib.hid c2
      clear c1 c2 h1 h2 h
      generalize a.length = n at *
      generalize b.length = m at *
      go_enter Tryd.func5, Tryd.ntmps5
      go_wp2_with fail
      refine C1.out.mono ?_
      rintro e w' ⟨rfl, rfl⟩
      go_wp2_with fail
      refine C2.out.mono ?_
      rintro e w' ⟨rfl, rfl⟩
      go_wp2_with fail
      refine (C4.out _ (Up.refl _)).mono ?_
      rintro e w1 ⟨rfl, hu⟩
      have HU := Lib.hid hu
      clear hu
      go_wp2_with fail
      refine (C6.out _ HU.out).mono ?_
      clear HU
      rintro e w1 ⟨rfl, hu⟩
      have HU := Lib.hid hu
      clear hu
      go_wp2_with fail
      go_ret
      exact ⟨rfl, HU.out⟩

theorem one_any (a b : List Int) (A B : Option Addr) (c d : Nat) (w : World) (hr : Ring w) (ha : a.length ≤ 9223372036854775807) (hb : b.length ≤ 9223372036854775807)
    (hra : Row w A a.length (IVal a)) (hrb : Row w B b.length (IVal b)) :
    Calls Tryd.prog 5 #[.slice A a.length c, .slice B b.length d] w fun e w' => e = .returned (.bool true) ∧ Up w w' := by
  by_cases h : fineL a = true ∧ fineL b = true ∧ a.length = b.length
  · obtain ⟨h1, h2, h3⟩ := h
    have h8 : a.length ≤ 8 := by
      have := h1
      unfold fineL at this
      simp at this
      exact this.1
    rw [← h3]
    rcases domI_one a b h1 h2 h3 with ⟨e1, e2, e3⟩ | ⟨e1, e2, e3⟩ | ⟨e1, e2, e3⟩
    · exact one_core a b A B c d a.length true false false w hr h8 rfl h3.symm h1 h2 hra (by rw [h3]; exact hrb) (decide_eq_true e1) e2 e3 (.inl ⟨rfl, rfl, rfl⟩)
    · exact one_core a b A B c d a.length false true false w hr h8 rfl h3.symm h1 h2 hra (by rw [h3]; exact hrb) (decide_eq_false e1) e2 e3 (.inr (.inl ⟨rfl, rfl, rfl⟩))
    · exact one_core a b A B c d a.length false false true w hr h8 rfl h3.symm h1 h2 hra (by rw [h3]; exact hrb) (decide_eq_false e1) e2 e3 (.inr (.inr ⟨rfl, rfl, rfl⟩))
  · exact one_other a b A B c d w hr ha hb hra hrb h

end Go.Proofs.YtaplhooapgfdgaaDoor
