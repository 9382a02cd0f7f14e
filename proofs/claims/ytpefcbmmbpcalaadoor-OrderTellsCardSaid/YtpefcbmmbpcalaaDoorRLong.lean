/-
  The document's longest, Longest.
-/
import Derived.Test.YtpefcbmmbpcalaaDoorLongP
import Derived.Test.YtpefcbmmbpcalaaDoorStill
set_option linter.unusedVariables false
set_option linter.unusedSimpArgs false
namespace Go.Proofs.YtpefcbmmbpcalaaDoor
open Go.RowKit

set_option maxRecDepth 10000 in
set_option maxHeartbeats 2000000 in
theorem rlongest_any (l : List OpD) (A : Option Addr) (c : Nat) (hL : l.length ≤ 1000000) : ∀ (f i : Nat) (w : World), l.length - i ≤ f → i < l.length → OpRow w A l →
    Calls Tryd.prog 33 #[.slice A l.length c, .int .i64 i] w fun e w' => e = .returned (.int .i64 (startL l i)) ∧ Up w w'
  | 0, i, w, hf, hi, hr => by omega
  | f + 1, i, w, hf, hi, hr => by
    have HR := Lib.hid hr
    have HIH := Lib.hid (fun q W (h : i + 1 + q < l.length) (u : Up w W) => rlongest_any l A c hL f (i + 1 + q) W (by omega) h (hr.up u))
    have HST := Lib.hid (startL_is hi)
    have HSK : Hid (∀ q, stK l (startL l) i (q + 1) = if ahI l i (i + 1 + q) then max (stK l (startL l) i q) (startL l (i + 1 + q)) else stK l (startL l) i q) := Lib.hid (fun _ => rfl)
    have HSL := Lib.hid (fun q (h : i + 1 + q < l.length) => startL_le (l := l) h)
    have HBD : Hid (∀ q, q ≤ l.length - (i + 1) → stK l (startL l) i q ≤ l.length) := Lib.hid (fun q hq => by
      rcases stK_ex (l := l) (g := startL l) (i := i) q with h | ⟨p, h1, h2, h3⟩
      · omega
      · rw [h3]; exact startL_le (by omega))
    have hli : (l.length : Int) ≤ 1000000 := by omega
    have hii : (i : Int) < l.length := by omega
    have hi0 : (0 : Int) ≤ i := by omega
    have HI := Lib.hid hi
    have HDL : Hid (i + 1 + (l.length - (i + 1)) = l.length) := Lib.hid (by omega)
    clear hr hf
    generalize l.length - (i + 1) = d at *
    generalize startL l i = re at *
    generalize hst : startL l = st at *
    clear hst hi
    go_enter Tryd.func33, Tryd.ntmps33
    go_wp2_with fail
    go_loopw [5, 6] (fun n x wr => ∃ q : Nat, q ≤ d ∧ x = .int .i64 ((i + 1 + q : Nat) : Int) ∧ n = .int .i64 ((stK l st i q : Nat) : Int) ∧ Hid (Up w wr)) (fun _ x _ => l.length - (intOf x).toNat)
    case atStart => exact ⟨0, by omega, by rfl, rfl, Lib.hid (Up.refl _)⟩
    case round =>
      obtain ⟨q, hqd, rfl, rfl, HV⟩ := hrel
      have hdl := HDL.out
      obtain ⟨k, hk⟩ : ∃ k, i + 1 + q = k := ⟨_, rfl⟩
      have HIH1 := Lib.hid (HIH.out q)
      have HSK1 := Lib.hid (HSK.out q)
      have HB1 := Lib.hid (HBD.out q hqd)
      have HSL1 := Lib.hid (HSL.out q)
      rw [hk] at HIH1 HSK1 HSL1
      rw [hk]
      have HK := Lib.hid hk
      by_cases hlt : q < d
      · have hkl : k < l.length := by omega
        have hki : (k : Int) < l.length := by omega
        have hk0 : (0 : Int) ≤ k := by omega
        have HC := Lib.hid (fun W => HIH1.out W hkl)
        have hsl := HSL1.out hkl
        have hb1 := HB1.out
        obtain ⟨bi, offi, eA, p0, p1, p2, p3, p4⟩ := HR.out.up HV.out i HI.out
        subst eA
        obtain ⟨bk, offk, eB, q0, q1, q2, q3, q4⟩ := HR.out.up HV.out k hkl
        cases eB
        have HAH := Lib.hid (fun W => rahead_any (l.getD i op0) (l.getD k op0) W)
        rw [show aheadB (l.getD i op0) (l.getD k op0) = ahI l i k from rfl] at HAH
        have c0 := upCell p0
        have c1 := upCell p1
        have c2 := upCell p2
        have c3 := upCell p3
        have c4 := upCell p4
        have d0 := upCell q0
        have d1 := upCell q1
        have d2 := upCell q2
        have d3 := upCell q3
        have d4 := upCell q4
        have HQL : Hid (q < d) := Lib.hid hlt
        have hl0 : l.length ≤ 1000000 := by omega
        clear p0 p1 p2 p3 p4 q0 q1 q2 q3 q4 hdl hlt hk hkl
        generalize ahI l i k = ah at *
        generalize hst1 : stK l st i (q + 1) = s1 at *
        have HS1 := Lib.hid hst1
        clear hst1
        generalize stK l st i q = s0 at *
        generalize st k = m at *
        generalize l.getD i op0 = x at *
        generalize l.getD k op0 = y at *
        obtain ⟨PF, PT, PW, PV, PH⟩ := x
        obtain ⟨QF, QT, QW, QV, QH⟩ := y
        unfold oagg at HAH
        dsimp only at HAH c0 c1 c2 c3 c4 d0 d1 d2 d3 d4
        have HW1 : Hid ((k : Int) + 1 = ((i + 1 + (q + 1) : Nat) : Int)) := Lib.hid (by have := HK.out; omega)
        cases ah
        · have HE : Hid (s1 = s0) := Lib.hid HSK1.out
          clear HSK1 HC hsl
          go_wp2_with fail
          refine wp_region_up (w0 := wr) (by kernel_rfl) (by kernel_rfl) (Up.refl _) ?_
          repeat (go_big_quiet_step ((go_at_call 25; with_reducible exact callAbove HAH.out _)))
          refine wpQuiet_nil ?_
          rintro wz ⟨⟨wy, huy⟩, hwy⟩
          have huz : Up wr wz := by rw [hwy]; exact huy
          clear hwy huy
          go_wp2_with fail
          go_roundw
          case rel => exact ⟨q + 1, HQL.out, by rw [← HW1.out], by rw [HS1.out, HE.out], Lib.hid (HV.out.trans huz)⟩
          case measure => simp [intOf]; omega
        · by_cases hmn : s0 < m
          · have HE : Hid (s1 = m) := Lib.hid (HSK1.out.trans (by rw [if_pos rfl]; exact Nat.max_eq_right (by omega)))
            have hmi : (s0 : Int) < (m : Int) := by omega
            clear HSK1 hmn
            go_wp2_with fail
            refine wp_region_up (w0 := wr) (by kernel_rfl) (by kernel_rfl) (Up.refl _) ?_
            repeat (go_big_quiet_step ((go_at_call 25; with_reducible exact callAbove HAH.out _)))
            refine wpQuiet_nil ?_
            rintro wz ⟨⟨wy, huy⟩, hwy⟩
            have HUZ := Lib.hid (show Up w wz by rw [hwy]; exact HV.out.trans huy)
            clear hwy huy
            go_wp2_with fail
            refine (HC.out _ HUZ.out).mono ?_
            rintro e w5 ⟨rfl, hu5⟩
            have HU5 := Lib.hid (HUZ.out.trans hu5)
            clear hu5
            go_wp2_with fail
            go_roundw
            case rel => exact ⟨q + 1, HQL.out, by rw [← HW1.out], by rw [HS1.out, HE.out], HU5⟩
            case measure => simp [intOf]; omega
          · have HE : Hid (s1 = s0) := Lib.hid (HSK1.out.trans (by rw [if_pos rfl]; exact Nat.max_eq_left (by omega)))
            have hmi : ((s0 : Int) < (m : Int)) = False := by simp; omega
            have hmd : decide ((s0 : Int) < (m : Int)) = false := decide_eq_false (by omega)
            clear HSK1 hmn
            go_wp2_with fail
            refine wp_region_up (w0 := wr) (by kernel_rfl) (by kernel_rfl) (Up.refl _) ?_
            repeat (go_big_quiet_step ((go_at_call 25; with_reducible exact callAbove HAH.out _)))
            refine wpQuiet_nil ?_
            rintro wz ⟨⟨wy, huy⟩, hwy⟩
            have HUZ := Lib.hid (show Up w wz by rw [hwy]; exact HV.out.trans huy)
            clear hwy huy
            go_wp2_with fail
            refine (HC.out _ HUZ.out).mono ?_
            rintro e w5 ⟨rfl, hu5⟩
            have HU5 := Lib.hid (HUZ.out.trans hu5)
            clear hu5
            go_wp2_with fail
            go_roundw
            case rel => exact ⟨q + 1, HQL.out, by rw [← HW1.out], by rw [HS1.out, HE.out], HU5⟩
            case measure => simp [intOf]; omega
      · obtain rfl : q = d := by omega
        have hkl : k = l.length := by omega
        have hkd : decide ((k : Int) < l.length) = false := decide_eq_false (by omega)
        have hkf : ((k : Int) < l.length) = False := by simp; omega
        have hb1 := HB1.out
        have hw1 : wrap64 (((stK l st i q : Nat) : Int) + 1) = ((re : Nat) : Int) := by rw [IntWalk.wrap64_in _ (by omega), HST.out]; rfl
        clear hlt hk hkl hdl hb1 hqd HIH1 HSK1 HSL1
        generalize stK l st i q = s0 at *
        go_wp2_with fail
        go_ret
        exact ⟨by rw [← hw1]; rfl, HV.out⟩

set_option maxRecDepth 10000 in
set_option maxHeartbeats 2000000 in
theorem rlong_any (l : List OpD) (A : Option Addr) (c : Nat) (w : World) (hL : l.length ≤ 1000000) (hr : OpRow w A l) :
    Calls Tryd.prog 18 #[.slice A l.length c] w fun e w' => e = .returned (.int .i64 ((maxK (startL l) l.length : Nat) : Int)) ∧ Up w w' := by
  have HC := Lib.hid (fun k W (h : k < l.length) (u : Up w W) => rlongest_any l A c hL (l.length - k) k W (Nat.le_refl _) h (hr.up u))
  have HM : Hid (∀ k, maxK (startL l) (k + 1) = max (maxK (startL l) k) (startL l k)) := Lib.hid (fun _ => rfl)
  have HB := Lib.hid (fun k (h : k ≤ l.length) => maxK_le (f := startL l) (b := l.length) k (fun q hq => startL_le (by omega)))
  have HSL := Lib.hid (fun k (h : k < l.length) => startL_le (l := l) h)
  have hli : (l.length : Int) ≤ 1000000 := by omega
  clear hr hL
  generalize startL l = st at *
  go_enter Tryd.func18, Tryd.ntmps18
  go_wp2_with fail
  go_loopw [3, 4] (fun n x wr => ∃ k : Nat, k ≤ l.length ∧ x = .int .i64 k ∧ n = .int .i64 ((maxK st k : Nat) : Int) ∧ Hid (Up w wr)) (fun _ x _ => l.length - (intOf x).toNat)
  case atStart => exact ⟨0, by omega, rfl, rfl, Lib.hid (Up.refl _)⟩
  case round =>
    obtain ⟨k, hk, rfl, rfl, HV⟩ := hrel
    by_cases hlt : k < l.length
    · have hki : (k : Int) < l.length := by omega
      have hk0 : (0 : Int) ≤ k := by omega
      have HC1 := Lib.hid (HC.out k _ hlt HV.out)
      have HM1 := Lib.hid (HM.out k)
      generalize hs1 : maxK st (k + 1) = s1 at *
      have HS1 := Lib.hid hs1
      clear hs1
      generalize maxK st k = s0 at *
      generalize st k = m at *
      by_cases hmn : s0 < m
      · have HE : Hid (s1 = m) := Lib.hid (HM1.out.trans (Nat.max_eq_right (by omega)))
        have hmi : (s0 : Int) < (m : Int) := by omega
        clear HM1 hmn
        go_wp2_with fail
        refine HC1.out.mono ?_
        rintro e w5 ⟨rfl, hu5⟩
        have HU5 := Lib.hid (HV.out.trans hu5)
        clear hu5
        go_wp2_with fail
        go_roundw
        case rel => exact ⟨k + 1, by omega, by go_num, by rw [HS1.out, HE.out], HU5⟩
        case measure => simp [intOf]; omega
      · have HE : Hid (s1 = s0) := Lib.hid (HM1.out.trans (Nat.max_eq_left (by omega)))
        have hmi : ((s0 : Int) < (m : Int)) = False := by simp; omega
        have hmd : decide ((s0 : Int) < (m : Int)) = false := decide_eq_false (by omega)
        clear HM1 hmn
        go_wp2_with fail
        refine HC1.out.mono ?_
        rintro e w5 ⟨rfl, hu5⟩
        have HU5 := Lib.hid (HV.out.trans hu5)
        clear hu5
        go_wp2_with fail
        go_roundw
        case rel => exact ⟨k + 1, by omega, by go_num, by rw [HS1.out, HE.out], HU5⟩
        case measure => simp [intOf]; omega
    · obtain rfl : k = l.length := by omega
      clear hlt
      go_wp2_with fail
      go_ret
      exact ⟨rfl, HV.out⟩

end Go.Proofs.YtpefcbmmbpcalaaDoor
