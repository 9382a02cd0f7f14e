/-
  The walk of StampsTells, further arms.
-/
import Derived.Test.YtlclijnoablejaaDoorStaQ
set_option linter.unusedVariables false
set_option linter.unusedSimpArgs false
namespace Go.Proofs.YtlclijnoablejaaDoor
open Go.RowKit

set_option maxRecDepth 10000 in
set_option maxHeartbeats 2000000 in
theorem tells_in (L : List (List Int)) (A : Option Addr) (cc : Nat) (n me c : Int) (w : World) (hring : Ring w) (hL : L.length ≤ 1000000) (hb : BRow w A L) (hfar : farB L = false) (hfb : fineBd L = true) (i k : Nat) (hi : i < L.length) (hk : k < L.length) (hc : c = k) (hme : me = i) :
    Calls Tryd.prog 3 #[.slice A L.length cc, .int .i64 n, .int .i64 me, .int .i64 c] w fun e w' => e = .returned (.bool true) ∧ Up w w' := by
  have HG := Lib.hid hring
  have HB := Lib.hid hb
  have HFA := Lib.hid (far_any L A cc w (by omega) hb)
  rw [hfar] at HFA
  have HLL := Lib.hid hL
  have hl2 : (L.length : Int) ≤ 1000000 := by omega
  have HNE := Lib.hid (fun W => new_any n W)
  have HCL := Lib.hid (fun W => clamp_any n 8 W)
  have HOA := Lib.hid (fun W (u : Up w W) => over_any L A cc n W hL (hring.up u) (hb.up u))
  have HRR := Lib.hid (fun W (u : Up w W) => rrows_any L A cc n W (by omega) (hb.up u))
  have HAL := Lib.hid (fun W (u : Up w W) => alive07_any W (hring.up u))
  have HSF := Lib.hid (fun W (u : Up w W) => sfine_any L A cc W (by omega) (hb.up u))
  have HRF := Lib.hid (fun W (u : Up w W) => rsfine_any L A cc W (by omega) (hb.up u))
  subst hc
  subst hme
  have hii : (i : Int) < L.length := by omega
  have hi0 : (0 : Int) ≤ i := by omega
  have htb : threadB L.length i = true := by
    unfold threadB
    rw [decide_eq_true hi0, decide_eq_true hii]; rfl
  rw [hfb] at HSF HRF
  have HTN := Lib.hid (fun W (u : Up w W) => take_yes L A cc i W (hring.up u) (hb.up u) hfb hi)
  have HLA := Lib.hid (fun W (u : Up w W) => last_any L A cc W (hring.up u) (by omega) (hb.up u))
  rw [hfb] at HLA
  simp only [if_true] at HLA
  have HRL := Lib.hid (fun W (u : Up w W) => rlast_any L A cc W (by omega) (hb.up u))
  have HRT := Lib.hid (fun W (u : Up w W) => rtake_any L A cc i W (hb.up u) hfb hi)
  have HSA : Hid (∀ A1 c1 A2 c2 W, BRow W A1 (takeP L i) → BRow W A2 (takeP L i) → Calls Tryd.prog 20 #[.slice A1 L.length c1, .slice A2 L.length c2] W fun e w' => e = .returned (.bool true) ∧ Up W w') := Lib.hid (fun A1 c1 A2 c2 W h1 h2 => by
    have hlt : (takeP L i).length = L.length := by unfold takeP; rw [List.length_set]
    have h := same_any (takeP L i) (takeP L i) A1 A2 c1 c2 W (by omega) (by omega) h1 h2
    have hee : decide (takeP L i = takeP L i) = true := decide_eq_true rfl
    rw [hee, hlt] at h
    exact h)
  have HBE := Lib.hid (fun W (u : Up w W) => behind_any L A cc i k W (hring.up u) (by omega) (hb.up u))
  generalize lastP L = z at *
  have hkk : (k : Int) < L.length := by omega
  have hk0 : (0 : Int) ≤ k := by omega
  have hbv : behindB L i k = domI (L.getD i []) (L.getD k []) := by
    have htk : threadB L.length k = true := by
      unfold threadB
      rw [decide_eq_true hk0, decide_eq_true hkk]; rfl
    unfold behindB
    rw [hfb, htb, htk, Int.toNat_natCast, Int.toNat_natCast]; rfl
  rw [hbv] at HBE
  obtain ⟨b1, off1, A7, c7, rfl, hc7, hr7⟩ := hb i hi
  obtain ⟨b2, off2, A9, c9, e2, hc9, hr9⟩ := hb k hk
  injection e2 with e2
  injection e2 with e2 e3
  subst e2 e3
  have HD : Hid (∀ W q, Up w W → Calls Tryd.prog 19 #[.slice A7 (L.getD i []).length c7, .slice A9 (L.getD k []).length c9] (W.drewN q) fun e w' => e = .returned (.bool (domI (L.getD i []) (L.getD k []))) ∧ Dr (W.drewN q) w') :=
    Lib.hid (fun W q hW => rdom_q _ _ _ _ _ _ _ hr7.le hr9.le hr7.cap hr9.cap (hr7.up (hW.drewN q)).row (hr9.up (hW.drewN q)).row)
  have HC7 := Lib.hid hc7
  have HC9 := Lib.hid hc9
  generalize domI (L.getD i []) (L.getD k []) = v at *
  generalize (L.getD i []).length = q7 at *
  generalize (L.getD k []).length = q9 at *
  clear hfb htb hi hk hbv hc7 hr7 hc9 hr9
  clear hring hb hfar hL
  go_enter Tryd.func3, Tryd.ntmps3
  go_wp2_with fail
  refine HFA.out.mono ?_
  rintro e w0 ⟨rfl, rfl⟩
  go_wp2_with fail
  refine (HNE.out _).mono ?_
  rintro e w1 ⟨A1, c1, m1, er, rfl, hu1, hcase⟩
  have HU1 := Lib.hid hu1
  have HCA := Lib.hid hcase
  clear hu1 hcase
  go_upto_region 4 with fail
  go_cut [49] (fun s wx => s = .bool false ∧ Hid (Up w wx))
  case first =>
    rcases HCA.out with ⟨hn, her, hm, L0, hl0, hb0, hf0⟩ | ⟨hn, her, hm⟩
    · have e1 : (er == 0) = true := by rw [her]; rfl
      have hn1 : 0 < n := by omega
      have hn9 : n < 9 := by omega
      have e2 : ((m1 : Int) != n) = false := by rw [hm]; simp
      have HC1 := Lib.hid (HCL.out w1)
      rw [show clampI n 0 (clampI 8 0 1099511627776) = n by unfold clampI; split <;> (try split) <;> (try split) <;> omega] at HC1
      have HO1 := Lib.hid (ok_any er w1)
      rw [show okI er = 1 by unfold okI; rw [her]; rfl] at HO1
      have hf1 := sfine_any L0 A1 c1 w1 (by omega) hb0
      rw [hl0, hf0] at hf1
      have HF1 := Lib.hid hf1
      clear hn her hm hl0 hb0 hf0 hf1
      go_wp2_with fail
      refine HC1.out.mono ?_
      rintro e w2 ⟨rfl, rfl⟩
      go_wp2_with fail
      refine HO1.out.mono ?_
      rintro e w2 ⟨rfl, rfl⟩
      go_wp2_with fail
      refine HF1.out.mono ?_
      rintro e w2 ⟨rfl, rfl⟩
      go_wp2_with fail
      go_meet
      exact ⟨rfl, HU1⟩
    · have e1 : (er == 0) = false := by rw [her]; rfl
      have e2 : ((m1 : Int) != 0) = false := by rw [hm]; rfl
      have HC1 := Lib.hid (HCL.out w1)
      generalize clampI n 0 (clampI 8 0 1099511627776) = p at HC1
      have HO1 := Lib.hid (ok_any er w1)
      rw [show okI er = 0 by unfold okI; rw [her]; rfl] at HO1
      have hf1 := sfine_any [] A1 c1 w1 (by decide) (BRow.nil w1 A1)
      rw [show ([] : List (List Int)).length = m1 by rw [hm]; rfl, show fineBd [] = false by rfl] at hf1
      have HF1 := Lib.hid hf1
      have hnn : n < 1 ∨ 9 ≤ n := by omega
      clear hn her hm hf1
      rcases hnn with hn | hn
      all_goals
        go_wp2_with fail
        refine HC1.out.mono ?_
        rintro e w2 ⟨rfl, rfl⟩
        go_wp2_with fail
        refine HO1.out.mono ?_
        rintro e w2 ⟨rfl, rfl⟩
        go_wp2_with fail
        refine HF1.out.mono ?_
        rintro e w2 ⟨rfl, rfl⟩
        go_wp2_with fail
        go_meet
        first
          | exact ⟨rfl, HU1⟩
          | exact ⟨congrArg Value.bool (decide_eq_false (by omega)), HU1⟩
  case rest =>
    obtain ⟨rfl, HUC⟩ := hcut
    clear HCA HU1 HNE HCL HFA
    generalize wc = w1 at *
    go_wp2_with fail
    refine (HSF.out _ HUC.out).mono ?_
    rintro e w2 ⟨rfl, rfl⟩
    go_wp2_with fail
    refine (HRF.out _ HUC.out).mono ?_
    rintro e w2 ⟨rfl, rfl⟩
    go_wp2_with fail
    refine (HTN.out _ HUC.out).mono ?_
    rintro e w3 ⟨A3, c3, rfl, hb3, hu3⟩
    have HB3 := Lib.hid hb3
    have HUK := Lib.hid (HUC.out.trans hu3)
    clear hb3 hu3
    go_wp2_with fail
    refine (HOA.out _ HUK.out).mono ?_
    rintro e w4 ⟨A5, c5, m5, rfl, hu4, hov⟩
    have HU4 := Lib.hid (HUK.out.trans hu4)
    have HOV := Lib.hid hov
    have HB4 := Lib.hid (HB3.out.up hu4)
    clear hu4 hov
    generalize hno : overNo L n = no at *
    have HNO : Hid (no = (decide (n < 0) || decide (8 < n) || !rowsB L n)) := Lib.hid hno.symm
    clear hno
    go_upto_region 10 with fail
    go_cut [75] (fun s wx => s = .bool no ∧ w4 = wx)
    case first =>
      have HR4 := Lib.hid (HRR.out w4 HU4.out)
      by_cases h0 : n < 0
      · have HN2 : Hid (no = true) := Lib.hid (by rw [HNO.out, decide_eq_true h0]; rfl)
        go_wp2_with fail
        go_meet
        exact ⟨by first | (rw [HN2.out]; done) | rw [HNO.out], rfl⟩
      · by_cases h8 : 8 < n
        · have HN2 : Hid (no = true) := Lib.hid (by rw [HNO.out, decide_eq_true h8]; simp)
          have h0' : 0 ≤ n := by omega
          clear h0
          go_wp2_with fail
          go_meet
          exact ⟨by first | (rw [HN2.out]; done) | rw [HNO.out], rfl⟩
        · have HN2 : Hid (no = !rowsB L n) := Lib.hid (by rw [HNO.out, decide_eq_false h8, decide_eq_false h0]; simp)
          have h0' : 0 ≤ n := by omega
          have h8' : n ≤ 8 := by omega
          clear h0 h8
          go_wp2_with fail
          refine HR4.out.mono ?_
          rintro e w5 ⟨rfl, rfl⟩
          go_wp2_with fail
          go_meet
          exact ⟨by first | (rw [HN2.out]; done) | rw [HNO.out], rfl⟩
    case rest =>
      obtain ⟨rfl, rfl⟩ := hcut
      go_upto_if 75 with fail
      go_cut [] (fun wx => Hid (Up w4 wx))
      case first =>
        rcases HOV.out with ⟨h1, h2⟩ | ⟨h1, k, hk, hk8, hrb, hm5, hlo, hrc⟩
        · have e2 : ((m5 : Int) != 0) = false := by rw [h2]; rfl
          rw [h1]
          go_wp2_with fail
          go_meet
          exact Lib.hid (Up.refl _)
        · have hro := rover_any k L _ cc w4 hk8 HLL.out (HB.out.up HU4.out) (rowsB_rowK hrb)
          rw [← hk] at hro
          have HRO := Lib.hid hro
          have HIN : Hid (∀ A6 c6 W, Up w4 W → RowC W A6 c6 (overP k L) → Calls Tryd.prog 15 #[.slice A5 m5 c5, .slice A6 (overP k L).length c6] W fun e w' => e = .returned (.bool true) ∧ Up W w') := Lib.hid (fun A6 c6 W hu hr6 => by
            have h := ints_any (overP k L) (overP k L) A5 A6 c5 c6 W (by omega) (by omega) (hrc.up hu).row hr6.row
            have hee : decide (overP k L = overP k L) = true := decide_eq_true rfl
            rw [hee] at h
            have hem : m5 = (overP k L).length := hm5.trans hlo.symm
            rw [hem]
            exact h)
          clear hro hrc hlo hrb hk8 hk hm5
          rw [h1]
          go_wp2_with fail
          refine HRO.out.mono ?_
          rintro e w5 ⟨v5, rfl, ⟨A6, c6, rfl, hr6, hb6⟩, hl6, hu5⟩
          have HI6 := Lib.hid (HIN.out A6 c6 w5 hu5 hr6)
          have HU5 := Lib.hid hu5
          clear hr6 hb6 hl6 hu5
          generalize (overP k L).length = q at *
          go_wp2_with fail
          refine HI6.out.mono ?_
          rintro e w6 ⟨rfl, hu6⟩
          have HU6 := Lib.hid (HU5.out.trans hu6)
          clear hu6
          go_wp2_with fail
          go_meet
          exact HU6
      case rest =>
        have HU6 := Lib.hid (HU4.out.trans hcut.out)
        have HB6 := Lib.hid (HB4.out.up hcut.out)
        clear hcut HOV HNO
        generalize wc = w6 at *
        go_wp2_with fail
        refine (HRF.out _ HU6.out).mono ?_
        rintro e w7 ⟨rfl, rfl⟩
        go_wp2_with fail
        have hc7 := (HU6.out.cell (cell_lt HC7.out)).trans HC7.out
        have hc9 := (HU6.out.cell (cell_lt HC9.out)).trans HC9.out
        have HDD := Lib.hid (fun q => HD.out w6 q HU6.out)
        go_quiet ((go_at_call 19; exact Calls.quiet_of (HDD.out _)))
        have HU7 : Hid (Up w (w6.drewN nq)) := Lib.hid (HU6.out.drewN nq)
        have HB7 : Hid (BRow (w6.drewN nq) A3 (takeP L i)) := Lib.hid (HB6.out.up ((Up.refl w6).drewN nq))
        clear hc7 hc9 HDD
        generalize w6.drewN nq = w7 at *
        go_wp2_with fail
        refine (HRT.out _ HU7.out).mono ?_
        rintro e w8 ⟨A8, c8, rfl, hb8, hu8⟩
        have HU8 := Lib.hid (HU7.out.trans hu8)
        have HS8 := Lib.hid (HSA.out _ c3 _ c8 w8 (HB7.out.up hu8) hb8)
        clear hb8 hu8
        go_wp2_with fail
        refine HS8.out.mono ?_
        rintro e w9 ⟨rfl, hu9⟩
        have HU9 := Lib.hid (HU8.out.trans hu9)
        clear hu9
        go_wp2_with fail
        refine (HLA.out _ HU9.out).mono ?_
        rintro e w10 ⟨rfl, hd10⟩
        have HU10 := Lib.hid (HU9.out.trans hd10.up)
        clear hd10
        go_wp2_with fail
        refine (HRL.out _ HU10.out).mono ?_
        rintro e w11 ⟨rfl, hd11⟩
        have HU11 := Lib.hid (HU10.out.trans hd11.up)
        clear hd11
        go_wp2_with fail
        refine (HBE.out _ HU11.out).mono ?_
        rintro e w12 ⟨rfl, hd12⟩
        have HU12 := Lib.hid (HU11.out.trans hd12.up)
        clear hd12
        go_wp2_with fail
        refine (HAL.out _ HU12.out).mono ?_
        rintro e w13 ⟨rfl, hu13⟩
        have HU13 := Lib.hid (HU12.out.trans hu13)
        clear hu13
        go_wp2_with fail
        go_ret
        exact ⟨rfl, HU13.out⟩
end Go.Proofs.YtlclijnoablejaaDoor
