/-
  The walk of StampsTells.
-/
import Derived.Test.YtlclijnoablejaaDoorStaO
import Derived.Deep.DeepCutAuto
set_option linter.unusedVariables false
set_option linter.unusedSimpArgs false
namespace Go.Proofs.YtlclijnoablejaaDoor
open Go.RowKit

def NewPost (n : Int) (w : World) (e : Ending) (w' : World) : Prop := ∃ A c m er, e = .returned (.tuple #[.slice A m c, .int .i64 er]) ∧ Up w w' ∧ (((1 ≤ n ∧ n ≤ 8) ∧ er = 0 ∧ (m : Int) = n ∧ ∃ L0, L0.length = m ∧ BRow w' A L0 ∧ fineBd L0 = true) ∨ ((n < 1 ∨ 8 < n) ∧ er = 6 ∧ m = 0))
theorem new_any (n : Int) (w : World) : Calls Tryd.prog 7 #[.int .i64 n] w (NewPost n w) := by
  by_cases h : 1 ≤ n ∧ n ≤ 8
  · obtain ⟨k, rfl⟩ : ∃ k : Nat, n = k := ⟨n.toNat, by omega⟩
    refine (new_yes k w (by omega) (by omega)).mono fun e w' ⟨A, c, he, hb, hu⟩ => ⟨A, c, k, 0, he, hu, .inl ⟨h, rfl, rfl, newP k, by simp [newP], hb, ?_⟩⟩
    exact (Inv.zero k (by omega)).fine (by omega) (by omega)
  · exact (new_no n w (by omega)).mono fun e w' ⟨he, hw⟩ => ⟨none, 0, 0, 6, he, hw ▸ Up.refl _, .inr ⟨by omega, rfl, rfl⟩⟩
def overNo (L : List (List Int)) (n : Int) : Bool := decide (n < 0) || decide (8 < n) || !rowsB L n
def OvPost (L : List (List Int)) (n : Int) (w : World) (e : Ending) (w' : World) : Prop := ∃ A c m, e = .returned (.slice A m c) ∧ Up w w' ∧ ((overNo L n = true ∧ m = 0) ∨ (overNo L n = false ∧ ∃ k : Nat, n = k ∧ k ≤ 8 ∧ rowsB L k = true ∧ m = k ∧ (overP k L).length = k ∧ RowC w' A c (overP k L)))
theorem over_any (L : List (List Int)) (A : Option Addr) (c : Nat) (n : Int) (w : World) (hL : L.length ≤ 1000000) (hring : Ring w) (hb : BRow w A L) : Calls Tryd.prog 13 #[.slice A L.length c, .int .i64 n] w (OvPost L n w) := by
  cases hn : overNo L n
  · have h : ¬ n < 0 ∧ ¬ 8 < n ∧ rowsB L n = true := by
      unfold overNo at hn
      simp only [Bool.or_eq_false_iff, decide_eq_false_iff_not, Bool.not_eq_false'] at hn
      exact ⟨hn.1.1, hn.1.2, hn.2⟩
    obtain ⟨k, rfl⟩ : ∃ k : Nat, n = k := ⟨n.toNat, by omega⟩
    exact (over_yes L A c k w (by omega) hL hring hb h.2.2).mono fun e w' ⟨v, he, ⟨A2, c2, hv, hr, _⟩, hl, hu⟩ => ⟨A2, c2, k, by rw [he, hv, hl], hu, .inr ⟨hn, k, rfl, by omega, h.2.2, rfl, hl, hr⟩⟩
  · have h : n < 0 ∨ 8 < n ∨ rowsB L n = false := by
      unfold overNo at hn
      simp only [Bool.or_eq_true, decide_eq_true_eq, Bool.not_eq_true'] at hn
      rcases hn with (h | h) | h
      · exact .inl h
      · exact .inr (.inl h)
      · exact .inr (.inr h)
    exact (over_no L A c n w hL hb h).mono fun e w' ⟨he, hw⟩ => ⟨none, 0, 0, he, hw ▸ Up.refl _, .inl ⟨hn, rfl⟩⟩
def okI (e : Int) : Int := if e = 0 then 1 else 0
theorem ok_any (e : Int) (w : World) : Calls Tryd.prog 9 #[.int .i64 e] w fun x w' => x = .returned (.int .i64 (okI e)) ∧ w = w' := by
  unfold okI
  by_cases h : e = 0
  · rw [if_pos h]
    subst h
    go_enter Tryd.func9, Tryd.ntmps9
    go_wp2_with fail
    go_ret
    exact ⟨rfl, rfl⟩
  · rw [if_neg h]
    have h2 : (e == 0) = false := beq_eq_false_iff_ne.2 h
    go_enter Tryd.func9, Tryd.ntmps9
    go_wp2_with fail
    go_ret
    exact ⟨rfl, rfl⟩

set_option maxRecDepth 10000 in
set_option maxHeartbeats 2000000 in
theorem tells_nf (L : List (List Int)) (A : Option Addr) (cc : Nat) (n me c : Int) (w : World) (hring : Ring w) (hL : L.length ≤ 1000000) (hb : BRow w A L) (hfar : farB L = false) (hfb : fineBd L = false) :
    Calls Tryd.prog 3 #[.slice A L.length cc, .int .i64 n, .int .i64 me, .int .i64 c] w fun e w' => e = .returned (.bool true) ∧ Up w w' := by
  have HG := Lib.hid hring
  have HB := Lib.hid hb
  have HFA := Lib.hid (far_any L A cc w (by omega) hb)
  rw [hfar] at HFA
  have HLL := Lib.hid hL
  have hl2 : (L.length : Int) ≤ 1000000 := by omega
  have HNE := Lib.hid (fun W => new_any n W)
  have HCL := Lib.hid (fun W => clamp_any n 8 W)
  have HOA := Lib.hid (fun W (u : Up w W) => over_any L A cc n W hL (hring.up u) (hb.up u))
  have HRR := Lib.hid (fun W (u : Up w W) => rrows_any L A cc n W (by omega) (hb.up u))
  have HAL := Lib.hid (fun W (u : Up w W) => alive07_any W (hring.up u))
  have HSF := Lib.hid (fun W (u : Up w W) => sfine_any L A cc W (by omega) (hb.up u))
  have HRF := Lib.hid (fun W (u : Up w W) => rsfine_any L A cc W (by omega) (hb.up u))
  rw [hfb] at HSF HRF
  have HTN := Lib.hid (fun W (u : Up w W) => take_no L A cc me W (by omega) (hb.up u) (.inl hfb))
  rw [hfb] at HTN
  simp only [Bool.false_eq_true, if_false] at HTN
  have HLA := Lib.hid (fun W (u : Up w W) => last_any L A cc W (hring.up u) (by omega) (hb.up u))
  rw [hfb] at HLA
  simp only [Bool.false_eq_true, if_false] at HLA
  have HBE := Lib.hid (fun W (u : Up w W) => behind_any L A cc me c W (hring.up u) (by omega) (hb.up u))
  rw [show behindB L me c = false by unfold behindB; rw [hfb]; rfl] at HBE
  clear hfb
  clear hring hb hfar hL
  go_enter Tryd.func3, Tryd.ntmps3
  go_wp2_with fail
  refine HFA.out.mono ?_
  rintro e w0 ⟨rfl, rfl⟩
  go_wp2_with fail
  refine (HNE.out _).mono ?_
  rintro e w1 ⟨A1, c1, m1, er, rfl, hu1, hcase⟩
  have HU1 := Lib.hid hu1
  have HCA := Lib.hid hcase
  clear hu1 hcase
  go_upto_region 4 with fail
  go_cut [49] (fun s wx => s = .bool false ∧ Hid (Up w wx))
  case first =>
    rcases HCA.out with ⟨hn, her, hm, L0, hl0, hb0, hf0⟩ | ⟨hn, her, hm⟩
    · have e1 : (er == 0) = true := by rw [her]; rfl
      have hn1 : 0 < n := by omega
      have hn9 : n < 9 := by omega
      have e2 : ((m1 : Int) != n) = false := by rw [hm]; simp
      have HC1 := Lib.hid (HCL.out w1)
      rw [show clampI n 0 (clampI 8 0 1099511627776) = n by unfold clampI; split <;> (try split) <;> (try split) <;> omega] at HC1
      have HO1 := Lib.hid (ok_any er w1)
      rw [show okI er = 1 by unfold okI; rw [her]; rfl] at HO1
      have hf1 := sfine_any L0 A1 c1 w1 (by omega) hb0
      rw [hl0, hf0] at hf1
      have HF1 := Lib.hid hf1
      clear hn her hm hl0 hb0 hf0 hf1
      go_wp2_with fail
      refine HC1.out.mono ?_
      rintro e w2 ⟨rfl, rfl⟩
      go_wp2_with fail
      refine HO1.out.mono ?_
      rintro e w2 ⟨rfl, rfl⟩
      go_wp2_with fail
      refine HF1.out.mono ?_
      rintro e w2 ⟨rfl, rfl⟩
      go_wp2_with fail
      go_meet
      exact ⟨rfl, HU1⟩
    · have e1 : (er == 0) = false := by rw [her]; rfl
      have e2 : ((m1 : Int) != 0) = false := by rw [hm]; rfl
      have HC1 := Lib.hid (HCL.out w1)
      generalize clampI n 0 (clampI 8 0 1099511627776) = p at HC1
      have HO1 := Lib.hid (ok_any er w1)
      rw [show okI er = 0 by unfold okI; rw [her]; rfl] at HO1
      have hf1 := sfine_any [] A1 c1 w1 (by decide) (BRow.nil w1 A1)
      rw [show ([] : List (List Int)).length = m1 by rw [hm]; rfl, show fineBd [] = false by rfl] at hf1
      have HF1 := Lib.hid hf1
      have hnn : n < 1 ∨ 9 ≤ n := by omega
      clear hn her hm hf1
      rcases hnn with hn | hn
      all_goals
        go_wp2_with fail
        refine HC1.out.mono ?_
        rintro e w2 ⟨rfl, rfl⟩
        go_wp2_with fail
        refine HO1.out.mono ?_
        rintro e w2 ⟨rfl, rfl⟩
        go_wp2_with fail
        refine HF1.out.mono ?_
        rintro e w2 ⟨rfl, rfl⟩
        go_wp2_with fail
        go_meet
        first
          | exact ⟨rfl, HU1⟩
          | exact ⟨congrArg Value.bool (decide_eq_false (by omega)), HU1⟩
  case rest =>
    obtain ⟨rfl, HUC⟩ := hcut
    clear HCA HU1 HNE HCL HFA
    generalize wc = w1 at *
    go_wp2_with fail
    refine (HSF.out _ HUC.out).mono ?_
    rintro e w2 ⟨rfl, rfl⟩
    go_wp2_with fail
    refine (HRF.out _ HUC.out).mono ?_
    rintro e w2 ⟨rfl, rfl⟩
    go_wp2_with fail
    refine (HTN.out _ HUC.out).mono ?_
    rintro e w3 ⟨rfl, rfl⟩
    have HUK := HUC
    go_wp2_with fail
    refine (HOA.out _ HUK.out).mono ?_
    rintro e w4 ⟨A5, c5, m5, rfl, hu4, hov⟩
    have HU4 := Lib.hid (HUK.out.trans hu4)
    have HOV := Lib.hid hov
    clear hu4 hov
    generalize hno : overNo L n = no at *
    have HNO : Hid (no = (decide (n < 0) || decide (8 < n) || !rowsB L n)) := Lib.hid hno.symm
    clear hno
    go_upto_region 10 with fail
    go_cut [75] (fun s wx => s = .bool no ∧ w4 = wx)
    case first =>
      have HR4 := Lib.hid (HRR.out w4 HU4.out)
      by_cases h0 : n < 0
      · have HN2 : Hid (no = true) := Lib.hid (by rw [HNO.out, decide_eq_true h0]; rfl)
        go_wp2_with fail
        go_meet
        exact ⟨by first | (rw [HN2.out]; done) | rw [HNO.out], rfl⟩
      · by_cases h8 : 8 < n
        · have HN2 : Hid (no = true) := Lib.hid (by rw [HNO.out, decide_eq_true h8]; simp)
          have h0' : 0 ≤ n := by omega
          clear h0
          go_wp2_with fail
          go_meet
          exact ⟨by first | (rw [HN2.out]; done) | rw [HNO.out], rfl⟩
        · have HN2 : Hid (no = !rowsB L n) := Lib.hid (by rw [HNO.out, decide_eq_false h8, decide_eq_false h0]; simp)
          have h0' : 0 ≤ n := by omega
          have h8' : n ≤ 8 := by omega
          clear h0 h8
          go_wp2_with fail
          refine HR4.out.mono ?_
          rintro e w5 ⟨rfl, rfl⟩
          go_wp2_with fail
          go_meet
          exact ⟨by first | (rw [HN2.out]; done) | rw [HNO.out], rfl⟩
    case rest =>
      obtain ⟨rfl, rfl⟩ := hcut
      go_upto_if 75 with fail
      go_cut [] (fun wx => Hid (Up w4 wx))
      case first =>
        rcases HOV.out with ⟨h1, h2⟩ | ⟨h1, k, hk, hk8, hrb, hm5, hlo, hrc⟩
        · have e2 : ((m5 : Int) != 0) = false := by rw [h2]; rfl
          rw [h1]
          go_wp2_with fail
          go_meet
          exact Lib.hid (Up.refl _)
        · have hro := rover_any k L _ cc w4 hk8 HLL.out (HB.out.up HU4.out) (rowsB_rowK hrb)
          rw [← hk] at hro
          have HRO := Lib.hid hro
          have HIN : Hid (∀ A6 c6 W, Up w4 W → RowC W A6 c6 (overP k L) → Calls Tryd.prog 15 #[.slice A5 m5 c5, .slice A6 (overP k L).length c6] W fun e w' => e = .returned (.bool true) ∧ Up W w') := Lib.hid (fun A6 c6 W hu hr6 => by
            have h := ints_any (overP k L) (overP k L) A5 A6 c5 c6 W (by omega) (by omega) (hrc.up hu).row hr6.row
            have hee : decide (overP k L = overP k L) = true := decide_eq_true rfl
            rw [hee] at h
            have hem : m5 = (overP k L).length := hm5.trans hlo.symm
            rw [hem]
            exact h)
          clear hro hrc hlo hrb hk8 hk hm5
          rw [h1]
          go_wp2_with fail
          refine HRO.out.mono ?_
          rintro e w5 ⟨v5, rfl, ⟨A6, c6, rfl, hr6, hb6⟩, hl6, hu5⟩
          have HI6 := Lib.hid (HIN.out A6 c6 w5 hu5 hr6)
          have HU5 := Lib.hid hu5
          clear hr6 hb6 hl6 hu5
          generalize (overP k L).length = q at *
          go_wp2_with fail
          refine HI6.out.mono ?_
          rintro e w6 ⟨rfl, hu6⟩
          have HU6 := Lib.hid (HU5.out.trans hu6)
          clear hu6
          go_wp2_with fail
          go_meet
          exact HU6
      case rest =>
        have HU6 := Lib.hid (HU4.out.trans hcut.out)
        clear hcut HOV HNO
        generalize wc = w6 at *
        go_wp2_with fail
        refine (HRF.out _ HU6.out).mono ?_
        rintro e w7 ⟨rfl, rfl⟩
        go_wp2_with fail
        refine (HLA.out _ HU6.out).mono ?_
        rintro e w8 ⟨rfl, hd8⟩
        have HU8 := Lib.hid (HU6.out.trans hd8.up)
        clear hd8
        go_wp2_with fail
        refine (HBE.out _ HU8.out).mono ?_
        rintro e w9 ⟨rfl, hd9⟩
        have HU9 := Lib.hid (HU8.out.trans hd9.up)
        clear hd9
        go_wp2_with fail
        refine (HAL.out _ HU9.out).mono ?_
        rintro e w10 ⟨rfl, hu10⟩
        have HU10 := Lib.hid (HU9.out.trans hu10)
        clear hu10
        go_wp2_with fail
        go_ret
        exact ⟨rfl, HU10.out⟩
end Go.Proofs.YtlclijnoablejaaDoor
