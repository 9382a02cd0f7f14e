/-
  The walks of the document's side: Beats, Next, Fine, Dominates, Clamp.
-/
import Derived.Test.YtlclijnoablejaaDoorSyC
import Derived.Deep.RegionHeld3
set_option linter.unusedVariables false
set_option linter.unusedSimpArgs false
namespace Go.Proofs.YtlclijnoablejaaDoor
open Go.RowKit

theorem rbeats_any (a b : Int) (w : World) : Calls Tryd.prog 34 #[.int .i64 a, .int .i64 b] w fun e w' => e = .returned (.bool (beatsI a b)) ∧ w = w' := by
  unfold beatsI
  by_cases a1 : a = 1
  · subst a1
    by_cases b0 : b = 0
    · subst b0
      go_enter Tryd.func34, Tryd.ntmps34
      go_wp2
      go_ret
      exact ⟨rfl, rfl⟩
    · have h : (b == 0) = false := beq_eq_false_iff_ne.2 b0
      go_enter Tryd.func34, Tryd.ntmps34
      go_wp2
      go_ret
      exact ⟨by simp [h], rfl⟩
  · have h1 : (a == 1) = false := beq_eq_false_iff_ne.2 a1
    by_cases a2 : a = 2
    · subst a2
      by_cases b0 : b = 1
      · subst b0
        clear a1 h1
        go_enter Tryd.func34, Tryd.ntmps34
        go_wp2
        go_ret
        exact ⟨rfl, rfl⟩
      · have h : (b == 1) = false := beq_eq_false_iff_ne.2 b0
        clear a1 h1
        go_enter Tryd.func34, Tryd.ntmps34
        go_wp2
        go_ret
        exact ⟨by simp [h], rfl⟩
    · have h2 : (a == 2) = false := beq_eq_false_iff_ne.2 a2
      by_cases a0 : a = 0
      · subst a0
        by_cases b0 : b = 2
        · subst b0
          clear a1 h1 a2 h2
          go_enter Tryd.func34, Tryd.ntmps34
          go_wp2
          go_ret
          exact ⟨rfl, rfl⟩
        · have h : (b == 2) = false := beq_eq_false_iff_ne.2 b0
          clear a1 h1 a2 h2
          go_enter Tryd.func34, Tryd.ntmps34
          go_wp2
          go_ret
          exact ⟨by simp [h], rfl⟩
      · have h0 : (a == 0) = false := beq_eq_false_iff_ne.2 a0
        go_enter Tryd.func34, Tryd.ntmps34
        go_wp2
        go_ret
        exact ⟨by simp [h0, h1, h2], rfl⟩

theorem rnext_any (d : Int) (w : World) : Calls Tryd.prog 32 #[.int .i64 d] w fun e w' => e = .returned (.int .i64 (nextI d)) ∧ w = w' := by
  have C := Lib.hid (fun (a : Int) (w : World) => rbeats_any a d w)
  have H0 := Lib.hid (show beatsI 0 d = true → nextI d = 0 by intro h; unfold beatsI at h; simp at h; subst h; rfl)
  have H1 := Lib.hid (show beatsI 1 d = true → nextI d = 1 by intro h; unfold beatsI at h; simp at h; subst h; rfl)
  have H2 := Lib.hid (show beatsI 2 d = true → nextI d = 2 by intro h; unfold beatsI at h; simp at h; subst h; rfl)
  have H3 := Lib.hid (show beatsI 0 d = false → beatsI 1 d = false → beatsI 2 d = false → nextI d = 0 by
    intro h0 h1 h2
    unfold beatsI at h0 h1 h2
    simp at h0 h1 h2
    unfold nextI
    rw [if_neg h1, if_neg h2])
  go_enter Tryd.func32, Tryd.ntmps32
  go_wp2_with fail
  go_loop [3] (fun t => ∃ k : Nat, k ≤ 3 ∧ t = .int .i64 k ∧ Hid (∀ j : Nat, j < k → beatsI j d = false)) (fun t => 3 - (intOf t).toNat)
  case atStart => exact ⟨0, by omega, rfl, Lib.hid (fun j hj => absurd hj (by omega))⟩
  case round =>
    obtain ⟨k, hk, rfl, HK⟩ := hrel
    by_cases hlt : k < 3
    · cases hb : beatsI k d
      · have HK2 := Lib.hid (show ∀ j : Nat, j < k + 1 → beatsI j d = false from fun j hj => by
          by_cases hj2 : j < k
          · exact HK.out j hj2
          · obtain rfl : j = k := by omega
            exact hb)
        go_wp2_with fail
        refine (C.out _ _).mono ?_
        rintro e w' ⟨rfl, rfl⟩
        go_wp2_with fail
        go_round
        case rel => exact ⟨k + 1, by omega, by go_num, HK2⟩
        case measure => simp [intOf]; omega
      · have HN := Lib.hid (show nextI d = k by
          rcases (show k = 0 ∨ k = 1 ∨ k = 2 by omega) with rfl | rfl | rfl
          · exact H0.out hb
          · exact H1.out hb
          · exact H2.out hb)
        go_wp2_with fail
        refine (C.out _ _).mono ?_
        rintro e w' ⟨rfl, rfl⟩
        go_wp2_with fail
        go_ret
        exact ⟨by rw [HN.out]; rfl, rfl⟩
    · obtain rfl : k = 3 := by omega
      have HN := Lib.hid (H3.out (HK.out 0 (by omega)) (HK.out 1 (by omega)) (HK.out 2 (by omega)))
      clear hlt hk
      go_wp2_with fail
      go_ret
      exact ⟨by rw [HN.out]; rfl, rfl⟩

def clampI (n lo hi : Int) : Int := if n < lo then lo else if hi < n then hi else n
theorem within_any (n lo hi : Int) (w : World) : Calls Tryd.prog 24 #[.int .i64 n, .int .i64 lo, .int .i64 hi] w fun e w' => e = .returned (.int .i64 (clampI n lo hi)) ∧ w = w' := by
  unfold clampI
  by_cases h1 : n < lo
  · rw [if_pos h1]
    go_enter Tryd.func24, Tryd.ntmps24
    go_wp2
    go_ret
    exact ⟨rfl, rfl⟩
  · rw [if_neg h1]
    by_cases h2 : hi < n
    · rw [if_pos h2]
      go_enter Tryd.func24, Tryd.ntmps24
      go_wp2
      go_ret
      exact ⟨rfl, rfl⟩
    · rw [if_neg h2]
      go_enter Tryd.func24, Tryd.ntmps24
      go_wp2
      go_ret
      exact ⟨rfl, rfl⟩
theorem clamp_any (n top : Int) (w : World) : Calls Tryd.prog 8 #[.int .i64 n, .int .i64 top] w fun e w' => e = .returned (.int .i64 (clampI n 0 (clampI top 0 1099511627776))) ∧ w = w' := by
  have C := Lib.hid (fun (n lo hi : Int) (w : World) => within_any n lo hi w)
  go_enter Tryd.func8, Tryd.ntmps8
  go_wp2_with fail
  refine (C.out _ _ _ _).mono ?_
  rintro e w' ⟨rfl, rfl⟩
  go_wp2_with fail
  refine (C.out _ _ _ _).mono ?_
  rintro e w' ⟨rfl, rfl⟩
  go_wp2_with fail
  go_ret
  exact ⟨rfl, rfl⟩

set_option maxHeartbeats 400000 in
theorem rfine_any (l : List Int) (A : Option Addr) (c : Nat) (w : World) (hm : l.length ≤ 9223372036854775807) (hrow : Row w A l.length (IVal l)) :
    Calls Tryd.prog 31 #[.slice A l.length c] w fun e w' => e = .returned (.bool (fineL l)) ∧ w = w' := by
  have HR := Lib.hid hrow
  obtain ⟨n, hn⟩ : ∃ n, l.length = n := ⟨_, rfl⟩
  rw [hn] at hm ⊢
  have HN := Lib.hid hn
  clear hrow hn
  go_enter Tryd.func31, Tryd.ntmps31
  go_wp2_with fail
  go_loop [3] (fun t => ∃ k : Nat, k ≤ n ∧ t = .int .i64 k ∧ Hid (∀ j, j < k → digB (l.getD j 0) = true)) (fun t => n - (intOf t).toNat)
  case atStart => exact ⟨0, by omega, rfl, Lib.hid (fun j hj => absurd hj (by omega))⟩
  case round =>
    obtain ⟨k, hk, rfl, HK⟩ := hrel
    by_cases hlt : k < n
    · obtain ⟨b, off, rfl, hc⟩ := HR.out k (by rw [HN.out]; exact hlt)
      unfold IVal at hc
      cases hd : digB (l.getD k 0)
      · have HF := Lib.hid (show fineL l = false by
          unfold fineL
          rw [Bool.and_eq_false_iff]
          right
          rw [Bool.eq_false_iff]
          intro h
          have := all_getD.1 h k (by rw [HN.out]; exact hlt)
          rw [hd] at this; cases this)
        generalize l.getD k 0 = d at *
        rcases digB_no d hd with g | ⟨g, g2⟩
        · clear hd
          go_wp2_with fail
          go_ret
          exact ⟨by rw [HF.out]; rfl, rfl⟩
        · clear hd
          go_wp2_with fail
          go_ret
          exact ⟨by rw [HF.out]; rfl, rfl⟩
      · have HK2 := Lib.hid (show ∀ j, j < k + 1 → digB (l.getD j 0) = true from fun j hj => by
          by_cases hj2 : j < k
          · exact HK.out j hj2
          · obtain rfl : j = k := by omega
            exact hd)
        have hd0 : 0 ≤ l.getD k 0 := by rcases digB_cases _ hd with h | h | h <;> omega
        have hd1 : l.getD k 0 ≤ 2 := by rcases digB_cases _ hd with h | h | h <;> omega
        generalize l.getD k 0 = d at *
        clear hd
        go_wp2_with fail
        go_round
        case rel => exact ⟨k + 1, by omega, by go_num, HK2⟩
        case measure => simp [intOf]; omega
    · obtain rfl : k = n := by omega
      by_cases h8 : k ≤ 8
      · have HF := Lib.hid (show fineL l = true by
          unfold fineL
          rw [decide_eq_true (by rw [HN.out]; exact h8), Bool.true_and]
          exact all_getD.2 fun j hj => HK.out j (by rw [← HN.out]; exact hj))
        have h8' : decide ((k : Int) ≤ 8) = true := decide_eq_true (by omega)
        go_wp2_with fail
        go_ret
        exact ⟨by rw [HF.out]; rfl, rfl⟩
      · have HF := Lib.hid (show fineL l = false by
          unfold fineL
          rw [decide_eq_false (by rw [HN.out]; exact h8), Bool.false_and])
        have h8' : decide ((k : Int) ≤ 8) = false := decide_eq_false (by omega)
        go_wp2_with fail
        go_ret
        exact ⟨by rw [HF.out]; rfl, rfl⟩

end Go.Proofs.YtlclijnoablejaaDoor
