/-
  The walks of the document's Dominates (it calls itself), Digits at digits, Text and Parse.
-/
import Derived.Test.YtlclijnoablejaaDoorSyF
set_option linter.unusedVariables false
set_option linter.unusedSimpArgs false
namespace Go.Proofs.YtlclijnoablejaaDoor
open Go.RowKit

theorem fineL_tail {x : Int} {l : List Int} (h : fineL (x :: l) = true) : fineL l = true := by
  unfold fineL at h ⊢
  simp at h ⊢
  exact ⟨by omega, h.2.2⟩

theorem row_tail {w : World} {b off n : Nat} {x : Int} {l : List Int} (h : Row w (some ⟨b, off, none⟩) (n + 1) (IVal (x :: l))) (A' : Option Addr) (hA : 0 < n → A' = some ⟨b, off + 1, none⟩) : Row w A' n (IVal l) := by
  intro k hk
  obtain ⟨b', off', e, hc⟩ := h (k + 1) (by omega)
  injection e with e
  injection e with e1 e2
  subst e1 e2
  refine ⟨b, off + 1, hA (by omega), ?_⟩
  rw [show off + 1 + k = off + (k + 1) from by omega, hc]
  rfl

theorem rdom_step (x y : Int) (l m : List Int) (hl : l.length = m.length) (hf : fineL (x :: l) = true) (hg : fineL (y :: m) = true) : domI (x :: l) (y :: m) = if x = y then domI l m else beatsI x y := by
  unfold domI
  rw [hf, hg, fineL_tail hf, fineL_tail hg, beq_iff_eq.2 hl, beq_iff_eq.2 (show (x :: l).length = (y :: m).length by simp [hl])]
  simp [domL]

set_option maxHeartbeats 1000000 in
theorem rdom_ind (k : Nat) : ∀ (a b : List Int) (A B : Option Addr) (c d : Nat) (w : World), a.length ≤ k → b.length ≤ 9223372036854775807 → a.length ≤ 9223372036854775807 → a.length ≤ c → b.length ≤ d → c ≤ 9223372036854775807 → d ≤ 9223372036854775807 →
    Row w A a.length (IVal a) → Row w B b.length (IVal b) →
    Calls Tryd.prog 19 #[.slice A a.length c, .slice B b.length d] w fun e w' => e = .returned (.bool (domI a b)) ∧ Dr w w' := by
  induction k with
  | zero =>
    intro a b A B c d w hk hb ha hac hbd hcm hdm hra hrb
    obtain rfl : a = [] := List.eq_nil_of_length_eq_zero (by omega)
    have hd : domI [] b = false := by unfold domI; cases b <;> simp [domL]
    rw [hd]
    have c1 := rfine_any [] A c w ha hra
    have c2 := rfine_any b B d w hb hrb
    rw [show fineL [] = true from rfl] at c1
    cases hf : fineL b
    · rw [hf] at c2
      have C1 := Lib.hid c1
      have C2 := Lib.hid c2
      generalize b.length = n at *
      clear c1 c2 hf hra hrb hd
      simp only [List.length_nil]
      go_enter Tryd.func19, Tryd.ntmps19
      go_wp2_with fail
      refine C1.out.mono ?_
      rintro e w' ⟨rfl, rfl⟩
      go_wp2_with fail
      refine C2.out.mono ?_
      rintro e w' ⟨rfl, rfl⟩
      go_wp2_with fail
      go_ret
      exact ⟨rfl, Dr.refl _⟩
    · rw [hf] at c2
      have C1 := Lib.hid c1
      have C2 := Lib.hid c2
      by_cases hn : b.length = 0
      · obtain rfl : b = [] := List.eq_nil_of_length_eq_zero hn
        clear c1 c2 hf hra hrb hd hn
        simp only [List.length_nil]
        go_enter Tryd.func19, Tryd.ntmps19
        go_wp2_with fail
        refine C1.out.mono ?_
        rintro e w' ⟨rfl, rfl⟩
        go_wp2_with fail
        refine C2.out.mono ?_
        rintro e w' ⟨rfl, rfl⟩
        go_wp2_with fail
        go_ret
        exact ⟨rfl, Dr.refl _⟩
      · have hne : ((0 : Int) != (b.length : Int)) = true := by rw [bne_iff_ne]; omega
        generalize b.length = n at *
        clear c1 c2 hf hra hrb hd hn
        simp only [List.length_nil]
        go_enter Tryd.func19, Tryd.ntmps19
        go_wp2_with fail
        refine C1.out.mono ?_
        rintro e w' ⟨rfl, rfl⟩
        go_wp2_with fail
        refine C2.out.mono ?_
        rintro e w' ⟨rfl, rfl⟩
        go_wp2_with fail
        go_ret
        exact ⟨rfl, Dr.refl _⟩
  | succ k ih =>
    intro a b A B c d w hk hb ha hac hbd hcm hdm hra hrb
    have c1 := rfine_any a A c w ha hra
    have c2 := rfine_any b B d w hb hrb
    cases hfa : fineL a
    · rw [show domI a b = false from by unfold domI; rw [hfa]; rfl]
      rw [hfa] at c1
      have C1 := Lib.hid c1
      clear c1 c2 hfa hra hrb ih hk ha hb hac hbd hcm hdm
      generalize a.length = n at *
      generalize b.length = m at *
      go_enter Tryd.func19, Tryd.ntmps19
      go_wp2_with fail
      refine C1.out.mono ?_
      rintro e w' ⟨rfl, rfl⟩
      go_wp2_with fail
      go_ret
      exact ⟨rfl, Dr.refl _⟩
    · rw [hfa] at c1
      have C1 := Lib.hid c1
      cases hfb : fineL b
      · rw [show domI a b = false from by unfold domI; rw [hfa, hfb]; rfl]
        rw [hfb] at c2
        have C2 := Lib.hid c2
        clear c1 c2 hfa hfb hra hrb ih hk ha hb hac hbd hcm hdm
        generalize a.length = n at *
        generalize b.length = m at *
        go_enter Tryd.func19, Tryd.ntmps19
        go_wp2_with fail
        refine C1.out.mono ?_
        rintro e w' ⟨rfl, rfl⟩
        go_wp2_with fail
        refine C2.out.mono ?_
        rintro e w' ⟨rfl, rfl⟩
        go_wp2_with fail
        go_ret
        exact ⟨rfl, Dr.refl _⟩
      · rw [hfb] at c2
        have C2 := Lib.hid c2
        by_cases hl : a.length = b.length
        · by_cases h0 : a.length = 0
          · obtain rfl : a = [] := List.eq_nil_of_length_eq_zero h0
            obtain rfl : b = [] := List.eq_nil_of_length_eq_zero (by rw [← hl]; exact h0)
            clear c1 c2 hfa hfb hra hrb ih hk ha hb hac hbd hcm hdm h0 hl
            simp only [List.length_nil]
            go_enter Tryd.func19, Tryd.ntmps19
            go_wp2_with fail
            refine C1.out.mono ?_
            rintro e w' ⟨rfl, rfl⟩
            go_wp2_with fail
            refine C2.out.mono ?_
            rintro e w' ⟨rfl, rfl⟩
            go_wp2_with fail
            go_ret
            exact ⟨rfl, Dr.refl _⟩
          · obtain ⟨x, l, rfl⟩ := List.exists_cons_of_length_pos (show 0 < a.length by omega)
            obtain ⟨y, m, rfl⟩ := List.exists_cons_of_length_pos (show 0 < b.length by omega)
            clear h0
            have hlm : l.length = m.length := by simpa using hl
            rw [rdom_step x y l m hlm hfa hfb]
            obtain ⟨ba, offa, rfl, hca⟩ := hra 0 (by simp)
            obtain ⟨bb, offb, rfl, hcb⟩ := hrb 0 (by simp)
            have hca : w.cell? ⟨ba, offa, none⟩ = some (.int .i64 x) := hca
            have hcb : w.cell? ⟨bb, offb, none⟩ = some (.int .i64 y) := hcb
            obtain ⟨n, hn⟩ : ∃ n, l.length = n := ⟨_, rfl⟩
            have hla : (x :: l).length = n + 1 := by simp [hn]
            have hlb : (y :: m).length = n + 1 := by simp [← hlm, hn]
            rw [hla] at C1 hra hac ha ⊢
            rw [hlb] at C2 hrb hbd hb ⊢
            by_cases hxy : x = y
            · rw [if_pos hxy]
              have ihx : ∀ (A' B' : Option Addr) (W : World), Dr w W → (0 < n → A' = some ⟨ba, offa + 1, none⟩) → (0 < n → B' = some ⟨bb, offb + 1, none⟩) →
                  Calls Tryd.prog 19 #[.slice A' n (c - 1), .slice B' n (d - 1)] W fun e w' => e = .returned (.bool (domI l m)) ∧ Dr W w' := by
                intro A' B' W hu hA hB
                have h := ih l m A' B' (c - 1) (d - 1) W (by omega) (by omega) (by omega) (by omega) (by omega) (by omega) (by omega) (by rw [hn]; exact (row_tail hra A' hA).up hu.up) (by rw [← hlm, hn]; exact (row_tail hrb B' hB).up hu.up)
                rw [hn, ← hlm, hn] at h
                exact h
              have IH := Lib.hid ihx
              clear ihx
              subst hxy
              have hc0 : n + 1 ≤ c := hac
              have hd0 : n + 1 ≤ d := hbd
              have ic : (n : Int) + 1 ≤ (c : Int) := by omega
              have id : (n : Int) + 1 ≤ (d : Int) := by omega
              have i1 : (1 : Int) ≤ (n : Int) + 1 := by omega
              clear c1 c2 hfa hfb hra hrb ih hk hn hla hlb hlm hl hac hbd
              go_enter Tryd.func19, Tryd.ntmps19
              go_wp2_with fail
              refine C1.out.mono ?_
              rintro e w' ⟨rfl, rfl⟩
              go_wp2_with fail
              refine C2.out.mono ?_
              rintro e w' ⟨rfl, rfl⟩
              go_wp2_with fail
              go_quiet (fail)
              go_wp2_with fail
              have HU := Lib.hid ((Dr.refl w).drewN nq)
              have HU := Lib.hid ((Dr.refl w).drewN nq)
              generalize w.drewN nq = w2 at *
              by_cases hc1 : c = 1
              · subst hc1
                obtain rfl : n = 0 := by omega
                by_cases hd1 : d = 1
                · subst hd1
                  go_quiet ((go_at_call 19; exact Calls.quiet_of (IH.out _ _ _ (Dr.drewN HU.out _) (fun h => by first | rfl | omega) (fun h => by first | rfl | omega))))
                  go_wp2_with fail
                  go_ret
                  exact ⟨rfl, Dr.drewN HU.out _⟩
                · go_quiet ((go_at_call 19; exact Calls.quiet_of (IH.out _ _ _ (Dr.drewN HU.out _) (fun h => by first | rfl | omega) (fun h => by first | rfl | omega))))
                  go_wp2_with fail
                  go_ret
                  exact ⟨rfl, Dr.drewN HU.out _⟩
              · by_cases hd1 : d = 1
                · subst hd1
                  obtain rfl : n = 0 := by omega
                  go_quiet ((go_at_call 19; exact Calls.quiet_of (IH.out _ _ _ (Dr.drewN HU.out _) (fun h => by first | rfl | omega) (fun h => by first | rfl | omega))))
                  go_wp2_with fail
                  go_ret
                  exact ⟨rfl, Dr.drewN HU.out _⟩
                · go_quiet ((go_at_call 19; exact Calls.quiet_of (IH.out _ _ _ (Dr.drewN HU.out _) (fun h => by first | rfl | omega) (fun h => by first | rfl | omega))))
                  go_wp2_with fail
                  go_ret
                  exact ⟨rfl, Dr.drewN HU.out _⟩
            · rw [if_neg hxy]
              have CB := Lib.hid (fun (W : World) (n : Nat) => show Calls Tryd.prog 34 #[.int .i64 x, .int .i64 y] (W.drewN n) (fun e w' => e = .returned (.bool (beatsI x y)) ∧ w' = W.drewN n) from
                (rbeats_any x y (W.drewN n)).mono fun e w' ⟨he, hw⟩ => ⟨he, hw.symm⟩)
              have hxy : (x == y) = false := beq_eq_false_iff_ne.2 hxy
              clear c1 c2 hfa hfb hra hrb ih hk hn hla hlb hlm hl hac hbd
              go_enter Tryd.func19, Tryd.ntmps19
              go_wp2_with fail
              refine C1.out.mono ?_
              rintro e w' ⟨rfl, rfl⟩
              go_wp2_with fail
              refine C2.out.mono ?_
              rintro e w' ⟨rfl, rfl⟩
              go_wp2_with fail
              go_quiet (fail)
              go_wp2_with fail
              have HU := Lib.hid ((Dr.refl w).drewN nq)
              have hca2 : (w.drewN nq).cell? ⟨ba, offa, none⟩ = some (.int .i64 x) := hca
              have hcb2 : (w.drewN nq).cell? ⟨bb, offb, none⟩ = some (.int .i64 y) := hcb
              clear hca hcb
              generalize w.drewN nq = w2 at *
              go_quiet ((go_at_call 34; exact Calls.quiet_of_same (CB.out _ _)))
              go_wp2_with fail
              go_ret
              exact ⟨rfl, HU.out.drewN _⟩
        · have hne : ((a.length : Int) != (b.length : Int)) = true := by rw [bne_iff_ne]; omega
          rw [show domI a b = false from by unfold domI; rw [hfa, hfb, beq_eq_false_iff_ne.2 hl]; rfl]
          clear c1 c2 hfa hfb hra hrb ih hk hl ha hb hac hbd hcm hdm
          generalize a.length = n at *
          generalize b.length = m at *
          go_enter Tryd.func19, Tryd.ntmps19
          go_wp2_with fail
          refine C1.out.mono ?_
          rintro e w' ⟨rfl, rfl⟩
          go_wp2_with fail
          refine C2.out.mono ?_
          rintro e w' ⟨rfl, rfl⟩
          go_wp2_with fail
          go_ret
          exact ⟨rfl, Dr.refl _⟩

theorem rdom_q (a b : List Int) (A B : Option Addr) (c d : Nat) (w : World) (hac : a.length ≤ c) (hbd : b.length ≤ d) (hc : c ≤ 9223372036854775807) (hd : d ≤ 9223372036854775807)
    (hra : Row w A a.length (IVal a)) (hrb : Row w B b.length (IVal b)) :
    Calls Tryd.prog 19 #[.slice A a.length c, .slice B b.length d] w fun e w' => e = .returned (.bool (domI a b)) ∧ Dr w w' :=
  rdom_ind a.length a b A B c d w (Nat.le_refl _) (by omega) (by omega) hac hbd hc hd hra hrb

theorem rdom_any (a b : List Int) (A B : Option Addr) (c d : Nat) (w : World) (hac : a.length ≤ c) (hbd : b.length ≤ d) (hc : c ≤ 9223372036854775807) (hd : d ≤ 9223372036854775807)
    (hra : Row w A a.length (IVal a)) (hrb : Row w B b.length (IVal b)) :
    Calls Tryd.prog 19 #[.slice A a.length c, .slice B b.length d] w fun e w' => e = .returned (.bool (domI a b)) ∧ Up w w' :=
  (rdom_q a b A B c d w hac hbd hc hd hra hrb).mono fun e w' ⟨he, h⟩ => ⟨he, h.up⟩

end Go.Proofs.YtlclijnoablejaaDoor
