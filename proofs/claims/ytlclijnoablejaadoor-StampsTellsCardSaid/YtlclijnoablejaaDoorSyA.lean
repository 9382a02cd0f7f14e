/-
  Package cycle: plain facts on digits and rows, and the walks of digit, Next, Beats, Fine, Dominates, and of the document's side.
-/
import Derived.Test.YtlclijnoablejaaDoorRows
import Derived.Test.YtlclijnoablejaaDoorRow
import Derived.WalkKit
import Derived.WalkSpells
import Derived.WalkLawsBesides
import Derived.Lib.Hide
import Derived.Deep.QuietTactic
import Derived.BigQuiet
set_option linter.unusedVariables false
set_option linter.unusedSimpArgs false
namespace Go.Proofs.YtlclijnoablejaaDoor
open Go.RowKit

/-- The ring's three cells. -/
def Ring (w : World) : Prop := w.cell? ⟨0, 0, none⟩ = some (.int .i64 1) ∧ w.cell? ⟨0, 1, none⟩ = some (.int .i64 2) ∧ w.cell? ⟨0, 2, none⟩ = some (.int .i64 0)
theorem Ring.below {w w' : World} (h : Ring w) (hb : Below w.heap.size w w') : Ring w' :=
  ⟨(hb.cell (cell_lt h.1)).trans h.1, (hb.cell (cell_lt h.2.1)).trans h.2.1, (hb.cell (cell_lt h.2.2)).trans h.2.2⟩

def digB (d : Int) : Bool := decide (0 ≤ d) && decide (d < 3)
def nextI (d : Int) : Int := if d = 0 then 1 else if d = 1 then 2 else 0
def beatsI (a b : Int) : Bool := (a == 1 && b == 0) || (a == 2 && b == 1) || (a == 0 && b == 2)

theorem digB_cases (d : Int) (h : digB d = true) : d = 0 ∨ d = 1 ∨ d = 2 := by
  unfold digB at h
  simp at h
  omega
theorem digB_yes (d : Int) (h0 : 0 ≤ d) (h1 : d < 3) : digB d = true := by unfold digB; rw [decide_eq_true h0, decide_eq_true h1]; rfl
theorem digB_no (d : Int) (h : digB d = false) : d < 0 ∨ (0 ≤ d ∧ 3 ≤ d) := by
  unfold digB at h
  simp at h
  omega

theorem digit_yes (d : Int) (w : World) (h : digB d = true) : Calls Tryd.prog 36 #[.int .i64 d] w fun e w' => e = .returned (.bool true) ∧ w = w' := by
  rcases digB_cases d h with rfl | rfl | rfl
  all_goals
    clear h
    go_enter Tryd.func36, Tryd.ntmps36
    go_wp2
    go_ret
    exact ⟨rfl, rfl⟩
theorem digit_no (d : Int) (w : World) (h : digB d = false) : Calls Tryd.prog 36 #[.int .i64 d] w fun e w' => e = .returned (.bool false) ∧ w = w' := by
  rcases digB_no d h with h1 | ⟨h1, h2⟩
  · clear h
    go_enter Tryd.func36, Tryd.ntmps36
    go_wp2
    go_ret
    exact ⟨rfl, rfl⟩
  · have hf : decide (d < 3) = false := decide_eq_false (by omega)
    clear h
    go_enter Tryd.func36, Tryd.ntmps36
    go_wp2
    go_ret
    exact ⟨rfl, rfl⟩

theorem next_any (d : Int) (w : World) (hr : Ring w) : Calls Tryd.prog 30 #[.int .i64 d] w fun e w' => e = .returned (.int .i64 (nextI d)) ∧ w = w' := by
  obtain ⟨r0, r1, r2⟩ := hr
  cases h : digB d
  · have hn : nextI d = 0 := by
      rcases digB_no d h with g | g
      · unfold nextI; rw [if_neg (by omega), if_neg (by omega)]
      · unfold nextI; rw [if_neg (by omega), if_neg (by omega)]
    rw [hn]
    have C := Lib.hid (fun w => digit_no d w h)
    clear h hn
    go_enter Tryd.func30, Tryd.ntmps30
    go_wp2_with fail
    refine (C.out _).mono ?_
    rintro e w' ⟨rfl, rfl⟩
    go_wp2_with fail
    go_ret
    exact ⟨rfl, rfl⟩
  · have C := Lib.hid (fun w => digit_yes d w h)
    rcases digB_cases d h with rfl | rfl | rfl
    all_goals
      clear h
      go_enter Tryd.func30, Tryd.ntmps30
      go_wp2_with fail
      refine (C.out _).mono ?_
      rintro e w' ⟨rfl, rfl⟩
      go_wp2_with fail
      go_ret
      exact ⟨rfl, rfl⟩

theorem beats_any (a b : Int) (w : World) (hr : Ring w) : Calls Tryd.prog 37 #[.int .i64 a, .int .i64 b] w fun e w' => e = .returned (.bool (beatsI a b)) ∧ w = w' := by
  obtain ⟨r0, r1, r2⟩ := hr
  cases ha : digB a
  · have hn : beatsI a b = false := by
      unfold beatsI
      rcases digB_no a ha with g | g
      all_goals
        rw [beq_eq_false_iff_ne.2 (show a ≠ 1 by omega), beq_eq_false_iff_ne.2 (show a ≠ 2 by omega), beq_eq_false_iff_ne.2 (show a ≠ 0 by omega)]
        rfl
    rw [hn]
    have C := Lib.hid (fun w => digit_no a w ha)
    clear ha hn
    go_enter Tryd.func37, Tryd.ntmps37
    go_wp2_with fail
    refine (C.out _).mono ?_
    rintro e w' ⟨rfl, rfl⟩
    go_wp2_with fail
    go_ret
    exact ⟨rfl, rfl⟩
  · have C := Lib.hid (fun w => digit_yes a w ha)
    cases hb : digB b
    · have hn : beatsI a b = false := by
        unfold beatsI
        rcases digB_no b hb with g | g
        all_goals
          rw [beq_eq_false_iff_ne.2 (show b ≠ 1 by omega), beq_eq_false_iff_ne.2 (show b ≠ 2 by omega), beq_eq_false_iff_ne.2 (show b ≠ 0 by omega)]
          simp
      rw [hn]
      have D := Lib.hid (fun w => digit_no b w hb)
      clear ha hn hb
      go_enter Tryd.func37, Tryd.ntmps37
      go_wp2_with fail
      refine (C.out _).mono ?_
      rintro e w' ⟨rfl, rfl⟩
      go_wp2_with fail
      refine (D.out _).mono ?_
      rintro e w' ⟨rfl, rfl⟩
      go_wp2_with fail
      go_ret
      exact ⟨rfl, rfl⟩
    · have D := Lib.hid (fun w => digit_yes b w hb)
      rcases digB_cases a ha with rfl | rfl | rfl
      all_goals
        rcases digB_cases b hb with rfl | rfl | rfl
        all_goals
          clear ha hb
          go_enter Tryd.func37, Tryd.ntmps37
          go_wp2_with fail
          refine (C.out _).mono ?_
          rintro e w' ⟨rfl, rfl⟩
          go_wp2_with fail
          refine (D.out _).mono ?_
          rintro e w' ⟨rfl, rfl⟩
          go_wp2_with fail
          go_ret
          exact ⟨rfl, rfl⟩

def fineL (l : List Int) : Bool := decide (l.length ≤ 8) && l.all digB
theorem all_getD {l : List Int} {p : Int → Bool} : l.all p = true ↔ ∀ k, k < l.length → p (l.getD k 0) = true := by
  rw [List.all_eq_true]
  constructor
  · intro h k hk
    rw [getD_lt hk]
    exact h _ (List.getElem_mem hk)
  · intro h x hx
    obtain ⟨k, hk, rfl⟩ := List.getElem_of_mem hx
    have := h k hk
    rwa [getD_lt hk] at this

set_option maxHeartbeats 400000 in
theorem fine_any (l : List Int) (A : Option Addr) (c : Nat) (w : World) (hm : l.length ≤ 9223372036854775807) (hrow : Row w A l.length (IVal l)) :
    Calls Tryd.prog 35 #[.slice A l.length c] w fun e w' => e = .returned (.bool (fineL l)) ∧ w = w' := by
  by_cases h8 : 8 < l.length
  · have : fineL l = false := by unfold fineL; rw [decide_eq_false (by omega)]; rfl
    rw [this]
    clear this
    go_enter Tryd.func35, Tryd.ntmps35
    go_wp2_with fail
    go_ret
    exact ⟨rfl, rfl⟩
  · have HR := Lib.hid hrow
    obtain ⟨n, hn⟩ : ∃ n, l.length = n := ⟨_, rfl⟩
    rw [hn]
    have HN := Lib.hid hn
    have hn8 : n ≤ 8 := by omega
    clear hrow hn hm h8
    go_enter Tryd.func35, Tryd.ntmps35
    go_wp2_with fail
    go_loop [10] (fun t => ∃ k : Nat, k ≤ n ∧ t = .int .i64 k ∧ Hid (∀ j, j < k → digB (l.getD j 0) = true)) (fun t => n - (intOf t).toNat)
    case atStart => exact ⟨0, by omega, rfl, Lib.hid (fun j hj => absurd hj (by omega))⟩
    case round =>
      obtain ⟨k, hk, rfl, HK⟩ := hrel
      by_cases hlt : k < n
      · obtain ⟨b, off, rfl, hc⟩ := HR.out k (by rw [HN.out]; exact hlt)
        unfold IVal at hc
        cases hd : digB (l.getD k 0)
        · have C := Lib.hid (fun w => digit_no (l.getD k 0) w hd)
          have HF := Lib.hid (show fineL l = false by
            unfold fineL
            rw [Bool.and_eq_false_iff]
            right
            rw [Bool.eq_false_iff]
            intro h
            have := all_getD.1 h k (by rw [HN.out]; exact hlt)
            rw [hd] at this; cases this)
          generalize l.getD k 0 = d at *
          clear hd
          go_wp2_with fail
          refine (C.out _).mono ?_
          rintro e w' ⟨rfl, rfl⟩
          go_wp2_with fail
          go_ret
          exact ⟨by rw [HF.out]; rfl, rfl⟩
        · have C := Lib.hid (fun w => digit_yes (l.getD k 0) w hd)
          have HK2 := Lib.hid (show ∀ j, j < k + 1 → digB (l.getD j 0) = true from fun j hj => by
            by_cases hj2 : j < k
            · exact HK.out j hj2
            · obtain rfl : j = k := by omega
              exact hd)
          generalize l.getD k 0 = d at *
          clear hd
          go_wp2_with fail
          refine (C.out _).mono ?_
          rintro e w' ⟨rfl, rfl⟩
          go_wp2_with fail
          go_round
          case rel => exact ⟨k + 1, by omega, by go_num, HK2⟩
          case measure => simp [intOf]; omega
      · obtain rfl : k = n := by omega
        have HF := Lib.hid (show fineL l = true by
          unfold fineL
          rw [decide_eq_true (by rw [HN.out]; exact hn8), Bool.true_and]
          exact all_getD.2 fun j hj => HK.out j (by rw [← HN.out]; exact hj))
        go_wp2_with fail
        go_ret
        exact ⟨by rw [HF.out]; rfl, rfl⟩

/-- The second world is the first after some draws. -/
def Dr (w w' : World) : Prop := ∃ m, w' = w.drewN m
theorem Dr.refl (w : World) : Dr w w := ⟨0, (World.drewN_zero w).symm⟩
theorem Dr.drewN {w w' : World} (h : Dr w w') (n : Nat) : Dr w (w'.drewN n) := by
  obtain ⟨m, rfl⟩ := h
  exact ⟨m + n, World.drewN_drewN _ _ _⟩
theorem Dr.up {w w' : World} (h : Dr w w') : Up w w' := by
  obtain ⟨m, rfl⟩ := h
  exact (Up.refl w).drewN m
theorem Dr.eq {w w' : World} (h : w = w') : Dr w w' := h ▸ Dr.refl w

end Go.Proofs.YtlclijnoablejaaDoor
