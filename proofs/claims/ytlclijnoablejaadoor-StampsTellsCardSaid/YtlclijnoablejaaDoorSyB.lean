/-
  The walks of Dominates and of the document's Ints.
-/
import Derived.Test.YtlclijnoablejaaDoorSyA
set_option linter.unusedVariables false
set_option linter.unusedSimpArgs false
namespace Go.Proofs.YtlclijnoablejaaDoor
open Go.RowKit

/-- Of two rows that are equally long: does the first unlike digit beat? -/
def domL : List Int → List Int → Bool
  | a :: l, b :: m => if a = b then domL l m else beatsI a b
  | _, _ => false

theorem domL_skip (k : Nat) : ∀ (a b : List Int), k ≤ a.length → a.length = b.length → (∀ j, j < k → a.getD j 0 = b.getD j 0) → domL a b = domL (a.drop k) (b.drop k) := by
  induction k with
  | zero => intro a b _ _ _; rfl
  | succ k ih =>
    intro a b hk hl h
    match a, b with
    | [], _ => simp at hk
    | x :: a, [] => simp at hl
    | x :: a, y :: b =>
      have h0 : x = y := by simpa using h 0 (by omega)
      subst h0
      show domL (x :: a) (x :: b) = domL (a.drop k) (b.drop k)
      rw [← ih a b (by simpa using hk) (by simpa using hl) (fun j hj => by simpa using h (j + 1) (by omega))]
      simp [domL]

theorem domL_at (a b : List Int) (k : Nat) (ha : k < a.length) (hb : k < b.length) (hne : a.getD k 0 ≠ b.getD k 0) : domL (a.drop k) (b.drop k) = beatsI (a.getD k 0) (b.getD k 0) := by
  rw [getD_lt ha, getD_lt hb] at hne ⊢
  rw [List.drop_eq_getElem_cons ha, List.drop_eq_getElem_cons hb]
  simp only [domL]
  rw [if_neg hne]

theorem domL_end (a b : List Int) : domL (a.drop a.length) b = false := by
  rw [List.drop_length]; cases b <;> rfl

def domI (a b : List Int) : Bool := fineL a && fineL b && (a.length == b.length) && domL a b

theorem beats_quiet (a b : Int) (w : World) (hr : Ring w) : ∀ n, Calls Tryd.prog 37 #[.int .i64 a, .int .i64 b] (w.drewN n) fun e w' => e = .returned (.bool (beatsI a b)) ∧ w' = w.drewN n := fun n =>
  (beats_any a b (w.drewN n) hr).mono fun e w' ⟨he, hw⟩ => ⟨he, hw.symm⟩

set_option maxHeartbeats 1000000 in
theorem dom_q (a b : List Int) (A B : Option Addr) (c d : Nat) (w : World) (hr : Ring w) (ha : a.length ≤ 9223372036854775807) (hb : b.length ≤ 9223372036854775807)
    (hra : Row w A a.length (IVal a)) (hrb : Row w B b.length (IVal b)) :
    Calls Tryd.prog 33 #[.slice A a.length c, .slice B b.length d] w fun e w' => e = .returned (.bool (domI a b)) ∧ Dr w w' := by
  have CA := Lib.hid (fine_any a A c w ha hra)
  have CB := Lib.hid (fine_any b B d w hb hrb)
  cases hfa : fineL a
  · rw [show domI a b = false from by unfold domI; rw [hfa]; rfl]
    rw [hfa] at CA
    have HA := Lib.hid hra
    have HB := Lib.hid hrb
    obtain ⟨n, hn⟩ : ∃ n, a.length = n := ⟨_, rfl⟩
    obtain ⟨m, hm⟩ : ∃ m, b.length = m := ⟨_, rfl⟩
    rw [hn] at CA ⊢
    rw [hm] at ⊢
    clear hfa hra hrb hn hm ha hb HA HB CB hr
    go_enter Tryd.func33, Tryd.ntmps33
    go_wp2_with fail
    refine CA.out.mono ?_
    rintro e w' ⟨rfl, rfl⟩
    go_wp2_with fail
    go_ret
    exact ⟨rfl, Dr.refl _⟩
  · rw [hfa] at CA
    cases hfb : fineL b
    · rw [show domI a b = false from by unfold domI; rw [hfa, hfb]; rfl]
      rw [hfb] at CB
      obtain ⟨n, hn⟩ : ∃ n, a.length = n := ⟨_, rfl⟩
      obtain ⟨m, hm⟩ : ∃ m, b.length = m := ⟨_, rfl⟩
      rw [hn] at CA ⊢
      rw [hm] at CB ⊢
      clear hfa hfb hra hrb hn hm ha hb hr
      go_enter Tryd.func33, Tryd.ntmps33
      go_wp2_with fail
      refine CA.out.mono ?_
      rintro e w' ⟨rfl, rfl⟩
      go_wp2_with fail
      refine CB.out.mono ?_
      rintro e w' ⟨rfl, rfl⟩
      go_wp2_with fail
      go_ret
      exact ⟨rfl, Dr.refl _⟩
    · rw [hfb] at CB
      by_cases hl : a.length = b.length
      · rw [show domI a b = domL a b from by unfold domI; rw [hfa, hfb, beq_iff_eq.2 hl]; simp]
        have HRA := Lib.hid hra
        have HRB := Lib.hid hrb
        have HR := Lib.hid hr
        have HL := Lib.hid hl
        obtain ⟨n, hn⟩ : ∃ n, a.length = n := ⟨_, rfl⟩
        rw [← hl] at CB ⊢
        rw [hn] at CA CB ⊢
        have HN := Lib.hid hn
        have hnm : n ≤ 9223372036854775807 := by omega
        clear hfa hfb hra hrb hn hl ha hb hr
        go_enter Tryd.func33, Tryd.ntmps33
        go_wp2_with fail
        refine CA.out.mono ?_
        rintro e w' ⟨rfl, rfl⟩
        go_wp2_with fail
        refine CB.out.mono ?_
        rintro e w' ⟨rfl, rfl⟩
        go_wp2_with fail
        go_loopw [23] (fun t wr => ∃ k : Nat, k ≤ n ∧ t = .int .i64 k ∧ Hid (∀ j, j < k → a.getD j 0 = b.getD j 0) ∧ Hid (Dr w wr)) (fun t _ => n - (intOf t).toNat)
        case atStart => exact ⟨0, by omega, rfl, Lib.hid (fun j hj => absurd hj (by omega)), Lib.hid (Dr.refl _)⟩
        case round =>
          obtain ⟨k, hk, rfl, HK, HW⟩ := hrel
          by_cases hlt : k < n
          · obtain ⟨ba, offa, rfl, hca⟩ := HRA.out k (by rw [HN.out]; exact hlt)
            obtain ⟨bb, offb, rfl, hcb⟩ := HRB.out k (by rw [← HL.out, HN.out]; exact hlt)
            have hca := (HW.out.up.cell (p := ⟨ba, offa + k, none⟩) (cell_lt hca)).trans hca
            have hcb := (HW.out.up.cell (p := ⟨bb, offb + k, none⟩) (cell_lt hcb)).trans hcb
            unfold IVal at hca hcb
            by_cases heq : a.getD k 0 = b.getD k 0
            · have HK2 := Lib.hid (show ∀ j, j < k + 1 → a.getD j 0 = b.getD j 0 from fun j hj => by
                by_cases hj2 : j < k
                · exact HK.out j hj2
                · obtain rfl : j = k := by omega
                  exact heq)
              rw [heq] at hca
              clear heq
              generalize b.getD k 0 = x at *
              go_wp2_with fail
              go_quiet (fail)
              go_wp2_with fail
              go_roundw
              case rel => exact ⟨k + 1, by omega, by go_num, HK2, Lib.hid (Dr.drewN HW.out _)⟩
              case measure => simp [intOf]; omega
            · have HF := Lib.hid (show domL a b = beatsI (a.getD k 0) (b.getD k 0) by
                rw [domL_skip k a b (by rw [HN.out]; omega) HL.out HK.out, domL_at a b k (by rw [HN.out]; exact hlt) (by rw [← HL.out, HN.out]; exact hlt) heq])
              have hne : ((a.getD k 0) != (b.getD k 0)) = true := by rw [bne_iff_ne]; exact heq
              have hrr := HR.out.below HW.out.up
              clear heq
              generalize a.getD k 0 = x at *
              generalize b.getD k 0 = y at *
              go_wp2_with fail
              go_quiet (fail)
              go_wp2_with fail
              have hca2 : (wr.drewN nq).cell? ⟨ba, offa + k, none⟩ = some (.int .i64 x) := hca
              have hcb2 : (wr.drewN nq).cell? ⟨bb, offb + k, none⟩ = some (.int .i64 y) := hcb
              have HW2 := Lib.hid (Dr.drewN HW.out nq)
              have CC : Hid (∀ n, Calls Tryd.prog 37 #[.int .i64 x, .int .i64 y] ((wr.drewN nq).drewN n) fun e w' => e = .returned (.bool (beatsI x y)) ∧ w' = (wr.drewN nq).drewN n) :=
                Lib.hid (beats_quiet x y (wr.drewN nq) hrr)
              clear hca hcb hrr
              generalize wr.drewN nq = w2 at *
              go_quiet ((go_at_call 37; exact Calls.quiet_of_same (CC.out _)))
              go_wp2_with fail
              go_ret
              exact ⟨by rw [HF.out]; rfl, Dr.drewN HW2.out _⟩
          · obtain rfl : k = n := by omega
            have HF := Lib.hid (show domL a b = false by
              rw [domL_skip k a b (by rw [HN.out]; omega) HL.out HK.out, ← HN.out]; exact domL_end a _)
            go_wp2_with fail
            go_ret
            exact ⟨by rw [HF.out]; rfl, HW.out⟩
      · rw [show domI a b = false from by unfold domI; rw [hfa, hfb, beq_eq_false_iff_ne.2 hl]; rfl]
        have hne : ((a.length : Int) != (b.length : Int)) = true := by rw [bne_iff_ne]; omega
        generalize a.length = n at *
        generalize b.length = m at *
        clear hfa hfb hra hrb hl ha hb hr
        go_enter Tryd.func33, Tryd.ntmps33
        go_wp2_with fail
        refine CA.out.mono ?_
        rintro e w' ⟨rfl, rfl⟩
        go_wp2_with fail
        refine CB.out.mono ?_
        rintro e w' ⟨rfl, rfl⟩
        go_wp2_with fail
        go_ret
        exact ⟨rfl, Dr.refl _⟩

theorem dom_any (a b : List Int) (A B : Option Addr) (c d : Nat) (w : World) (hr : Ring w) (ha : a.length ≤ 9223372036854775807) (hb : b.length ≤ 9223372036854775807)
    (hra : Row w A a.length (IVal a)) (hrb : Row w B b.length (IVal b)) :
    Calls Tryd.prog 33 #[.slice A a.length c, .slice B b.length d] w fun e w' => e = .returned (.bool (domI a b)) ∧ Below w.heap.size w w' :=
  (dom_q a b A B c d w hr ha hb hra hrb).mono fun e w' ⟨he, h⟩ => ⟨he, h.up⟩

end Go.Proofs.YtlclijnoablejaaDoor
