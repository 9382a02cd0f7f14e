/-
  fault, each, Regular, Safe.
-/
import Derived.Test.YtpefcbmmbpcalaaLooB
import Derived.Test.YtpefcbmmbpcalaaFinA
set_option linter.unusedVariables false
set_option linter.unusedSimpArgs false
namespace Go.Proofs.Ytpefcbmmbpcalaa
open Go.RowKit

def sameT (ws : List OpD) : Bool := ws.all fun o => o.thr == (ws.getD 0 op0).thr
def faultP (l : List OpD) : Int := if fineP l then (if sameT (onlyL l true) then 0 else 9) else 1
theorem sameT_all {ws : List OpD} (h : ∀ j, j < ws.length → (ws.getD j op0).thr = (ws.getD 0 op0).thr) : sameT ws = true := by
  unfold sameT
  rw [List.all_eq_true]
  intro o ho
  obtain ⟨j, hj, rfl⟩ := List.getElem_of_mem ho
  have := h j hj
  rw [List.getD_eq_getElem?_getD, List.getElem?_eq_getElem hj] at this
  rw [beq_iff_eq]
  exact this
theorem sameT_no {ws : List OpD} {j : Nat} (hj : j < ws.length) (h : (ws.getD j op0).thr ≠ (ws.getD 0 op0).thr) : sameT ws = false := by
  unfold sameT
  rw [List.all_eq_false]
  refine ⟨ws[j], List.getElem_mem hj, ?_⟩
  rw [List.getD_eq_getElem?_getD, List.getElem?_eq_getElem hj] at h
  rw [beq_iff_eq]
  exact h
theorem onlyL_all_len (l : List OpD) (b : Bool) : (onlyL l b).length ≤ l.length := List.length_filter_le _ _

set_option maxRecDepth 10000 in
set_option maxHeartbeats 1000000 in
theorem fault_any (l : List OpD) (A : Option Addr) (c : Nat) (w : World) (hL : l.length ≤ 1000000) (hr : OpRow w A l) :
    Calls Try.prog 23 #[.slice A l.length c] w fun e w' => e = .returned (.int .i64 (faultP l)) ∧ Up w w' := by
  have HF := Lib.hid (fine_any l A c w (by omega) hr)
  have HO := Lib.hid (fun W (u : Up w W) => only_any l A c true W hL (hr.up u))
  have HLW : Hid ((onlyL l true).length ≤ 1000000) := Lib.hid (Nat.le_trans (onlyL_all_len l true) hL)
  cases hff : fineP l
  · have HN : Hid (faultP l = 1) := Lib.hid (by unfold faultP; rw [hff]; rfl)
    rw [hff] at HF
    clear hff hr hL HO
    generalize l.length = n at *
    go_enter Try.func23, Try.ntmps23
    go_wp2_with fail
    refine HF.out.mono ?_
    rintro e w1 ⟨rfl, hu1⟩
    go_wp2_with fail
    go_ret
    exact ⟨by rw [HN.out]; rfl, hu1⟩
  · have HN : Hid (faultP l = if sameT (onlyL l true) then 0 else 9) := Lib.hid (by unfold faultP; rw [hff]; rfl)
    rw [hff] at HF
    have HSN := Lib.hid (fun j hj h => sameT_no (ws := onlyL l true) (j := j) hj h)
    have HSY := Lib.hid (fun h => sameT_all (ws := onlyL l true) h)
    clear hff hr hL
    generalize onlyL l true = ws at *
    go_enter Try.func23, Try.ntmps23
    go_wp2_with fail
    refine HF.out.mono ?_
    rintro e w1 ⟨rfl, hu1⟩
    have HU1 := Lib.hid hu1
    clear hu1
    go_wp2_with fail
    refine (HO.out _ HU1.out).mono ?_
    rintro e w2 ⟨v, rfl, ho, hu2⟩
    obtain ⟨A2, c2, rfl, hrow⟩ := ho.row
    have HRW := Lib.hid hrow
    have HU2 := Lib.hid (HU1.out.trans hu2)
    have hlw : (ws.length : Int) ≤ 1000000 := by have := HLW.out; omega
    clear ho hrow hu2 HO HF
    go_wp2_with fail
    go_loopw [13] (fun x wr => ∃ j : Nat, j ≤ ws.length ∧ x = .int .i64 j ∧ Hid (∀ i, i < j → (ws.getD i op0).thr = (ws.getD 0 op0).thr) ∧ Hid (Up w2 wr)) (fun x _ => ws.length - (intOf x).toNat)
    case atStart => exact ⟨0, by omega, rfl, Lib.hid (fun i hi => absurd hi (Nat.not_lt_zero i)), Lib.hid (Up.refl _)⟩
    case round =>
      obtain ⟨j, hj, rfl, HK, HV⟩ := hrel
      by_cases hlt : j < ws.length
      · have hji : (j : Int) < ws.length := by omega
        have hj0 : (0 : Int) ≤ j := by omega
        have hlpos : (0 : Int) < ws.length := by omega
        have hlpn : 0 < ws.length := by omega
        obtain ⟨b, off, rfl, x0, x1, x2, x3, x4⟩ := HRW.out.up HV.out j hlt
        obtain ⟨b2, off2, e2, y0, y1, y2, y3, y4⟩ := HRW.out.up HV.out 0 (by omega)
        injection e2 with e2
        injection e2 with e2 e3
        subst e2 e3
        rw [Nat.zero_mul, Nat.add_zero] at y0 y1 y2 y3 y4
        have HSN2 := Lib.hid (HSN.out j hlt)
        have HK2 : Hid ((ws.getD j op0).thr = (ws.getD 0 op0).thr → ∀ i, i < j + 1 → (ws.getD i op0).thr = (ws.getD 0 op0).thr) := Lib.hid (fun h i hi => by
          by_cases h2 : i < j
          · exact HK.out i h2
          · obtain rfl : i = j := by omega
            exact h)
        generalize ws.getD j op0 = o at *
        generalize (ws.getD 0 op0).thr = t0 at *
        obtain ⟨F, T, Wr, V, Th⟩ := o
        dsimp only at x0 x1 x2 x3 x4 HSN2 HK2
        have HUA := Lib.hid (HV.out.alloc (.cells #[.int .i64 F, .int .i64 T, .bool Wr, .int .i64 V, .int .i64 Th] 24))
        have hy4 : (wr.alloc (.cells #[.int .i64 F, .int .i64 T, .bool Wr, .int .i64 V, .int .i64 Th] 24)).cell? ⟨b, off + 4, none⟩ = some (.int .i64 t0) := (((Up.refl wr).alloc _).cell (cell_lt y4)).trans y4
        clear y0 y1 y2 y3 y4
        by_cases hth : Th = t0
        · have hthb : (Th != t0) = false := by rw [hth]; simp
          have HK3 := Lib.hid (HK2.out hth)
          clear hth HSN2 HK2
          go_wp2_with fail
          go_quiet (fail)
          go_wp2_with fail
          go_roundw
          case rel => exact ⟨j + 1, by omega, by go_num, HK3, Lib.hid (HUA.out.drewN _)⟩
          case measure => simp [intOf]; omega
        · have hthb : (Th != t0) = true := by rw [bne_iff_ne]; exact hth
          have HN2 : Hid (faultP l = 9) := Lib.hid (by rw [HN.out, HSN2.out hth]; rfl)
          clear hth HSN2 HK2
          go_wp2_with fail
          go_quiet (fail)
          go_wp2_with fail
          go_ret
          exact ⟨by rw [HN2.out]; rfl, HU2.out.trans (HUA.out.drewN _)⟩
      · obtain rfl : j = ws.length := by omega
        clear hlt
        have HN2 : Hid (faultP l = 0) := Lib.hid (by rw [HN.out, HSY.out HK.out]; rfl)
        go_wp2_with fail
        go_ret
        exact ⟨by rw [HN2.out]; rfl, HU2.out.trans HV.out⟩

def eachB (l : List OpD) (ok : OpD → Bool) : Bool := l.all fun r => r.wr || r.to == -1 || ok r
theorem eachB_no {l : List OpD} {ok : OpD → Bool} {j : Nat} (hj : j < l.length) (h1 : (l.getD j op0).wr = false) (h2 : ((l.getD j op0).to == -1) = false) (h3 : ok (l.getD j op0) = false) : eachB l ok = false := by
  unfold eachB
  rw [List.all_eq_false]
  refine ⟨l[j], List.getElem_mem hj, ?_⟩
  rw [List.getD_eq_getElem?_getD, List.getElem?_eq_getElem hj] at h1 h2 h3
  simp only [Option.getD_some] at h1 h2 h3
  rw [h1, h2, h3]; simp
theorem eachB_all {l : List OpD} {ok : OpD → Bool} (h : ∀ j, j < l.length → ((l.getD j op0).wr || (l.getD j op0).to == -1 || ok (l.getD j op0)) = true) : eachB l ok = true := by
  unfold eachB
  rw [List.all_eq_true]
  intro o ho
  obtain ⟨j, hj, rfl⟩ := List.getElem_of_mem ho
  have := h j hj
  rw [List.getD_eq_getElem?_getD, List.getElem?_eq_getElem hj] at this
  exact this

set_option maxRecDepth 10000 in
set_option maxHeartbeats 1000000 in
theorem each_any (K : Nat) (cap : List Value) (ok : OpD → Bool) (l : List OpD) (A : Option Addr) (c : Nat) (w : World) (hL : l.length ≤ 1000000) (hr : OpRow w A l) (hcf : ∀ args W, (callFunc K args).run Try.prog W = .ok (.enter K args) W)
    (hcl : ∀ A2 c2 r W, Up w W → OpRow W A2 (onlyL l true) → Calls Try.prog K (.slice A2 (onlyL l true).length c2 :: oagg r :: cap).toArray W fun e W' => e = .returned (.bool (ok r)) ∧ Up W W') :
    Calls Try.prog 24 #[.slice A l.length c, .func (.func K) #[] cap.toArray] w fun e w' => e = .returned (.bool (eachB l ok)) ∧ Up w w' := by
  have HO := Lib.hid (only_any l A c true w hL hr)
  have HR := Lib.hid hr
  have HCL := Lib.hid hcl
  have HNO := Lib.hid (fun j hj h1 h2 h3 => eachB_no (l := l) (ok := ok) (j := j) hj h1 h2 h3)
  have HYE := Lib.hid (fun h => eachB_all (l := l) (ok := ok) h)
  have hl2 : (l.length : Int) ≤ 1000000 := by omega
  clear hr hcl hL
  generalize eachB l ok = rb at *
  go_enter Try.func24, Try.ntmps24
  go_wp2_with fail
  refine HO.out.mono ?_
  rintro e w2 ⟨v, rfl, ho, hu2⟩
  obtain ⟨A2, c2, rfl, hrow⟩ := ho.row
  have HRW := Lib.hid hrow
  have HU2 := Lib.hid hu2
  clear ho hrow hu2 HO
  go_wp2_with fail
  go_loopw [12] (fun x wr => ∃ j : Nat, j ≤ l.length ∧ x = .int .i64 j ∧ Hid (∀ i, i < j → ((l.getD i op0).wr || (l.getD i op0).to == -1 || ok (l.getD i op0)) = true) ∧ Hid (Up w2 wr)) (fun x _ => l.length - (intOf x).toNat)
  case atStart => exact ⟨0, by omega, rfl, Lib.hid (fun i hi => absurd hi (Nat.not_lt_zero i)), Lib.hid (Up.refl _)⟩
  case round =>
    obtain ⟨j, hj, rfl, HK, HV⟩ := hrel
    by_cases hlt : j < l.length
    · have hji : (j : Int) < l.length := by omega
      have hj0 : (0 : Int) ≤ j := by omega
      obtain ⟨b, off, rfl, x0, x1, x2, x3, x4⟩ := HR.out.up (HU2.out.trans HV.out) j hlt
      have HNJ := Lib.hid (HNO.out j hlt)
      have HKN : Hid (((l.getD j op0).wr || (l.getD j op0).to == -1 || ok (l.getD j op0)) = true → ∀ i, i < j + 1 → ((l.getD i op0).wr || (l.getD i op0).to == -1 || ok (l.getD i op0)) = true) := Lib.hid (fun h i hi => by
        by_cases h2 : i < j
        · exact HK.out i h2
        · obtain rfl : i = j := by omega
          exact h)
      generalize l.getD j op0 = o at *
      have HC := Lib.hid (fun W (u : Up w2 W) => HCL.out A2 c2 o W (HU2.out.trans u) (HRW.out.up u))
      obtain ⟨F, T, Wr, V, Th⟩ := o
      unfold oagg at HC
      dsimp only at x0 x1 x2 x3 x4 HNJ HKN HC
      have HUA := Lib.hid (HV.out.alloc (.cells #[.int .i64 F, .int .i64 T, .bool Wr, .int .i64 V, .int .i64 Th] 24))
      cases Wr
      · by_cases hT : T = -1
        · have hTb : (T != -1) = false := by rw [hT]; rfl
          have HK3 := Lib.hid (HKN.out (by rw [hT]; rfl))
          clear hT HNJ HKN
          go_wp2_with fail
          go_roundw
          case rel => exact ⟨j + 1, by omega, by go_num, HK3, HUA⟩
          case measure => simp [intOf]; omega
        · have hTb : (T != -1) = true := by rw [bne_iff_ne]; exact hT
          have hTe : (T == -1) = false := beq_eq_false_iff_ne.2 hT
          have HNJ2 := Lib.hid (HNJ.out rfl hTe)
          have HKN2 : Hid (ok ⟨F, T, false, V, Th⟩ = true → ∀ i, i < j + 1 → ((l.getD i op0).wr || (l.getD i op0).to == -1 || ok (l.getD i op0)) = true) := Lib.hid (fun h => HKN.out (by rw [h]; simp))
          clear hT HNJ HKN hTe
          generalize ok ⟨F, T, false, V, Th⟩ = y at *
          go_wp2_with fail
          refine (HC.out _ HUA.out).mono ?_
          rintro e w4 ⟨rfl, hu4⟩
          have HU4 := Lib.hid (HUA.out.trans hu4)
          clear hu4 x0 x1 x2 x3 x4
          cases y
          · have HN : Hid (rb = false) := Lib.hid (HNJ2.out rfl)
            go_wp2_with fail
            go_ret
            exact ⟨by rw [HN.out]; rfl, HU2.out.trans HU4.out⟩
          · have HK3 := Lib.hid (HKN2.out rfl)
            go_wp2_with fail
            go_roundw
            case rel => exact ⟨j + 1, by omega, by go_num, HK3, HU4⟩
            case measure => simp [intOf]; omega
      · have HK3 := Lib.hid (HKN.out (by simp))
        clear HNJ HKN
        go_wp2_with fail
        go_roundw
        case rel => exact ⟨j + 1, by omega, by go_num, HK3, HUA⟩
        case measure => simp [intOf]; omega
    · obtain rfl : j = l.length := by omega
      clear hlt
      have HN : Hid (rb = true) := Lib.hid (HYE.out HK.out)
      go_wp2_with fail
      go_ret
      exact ⟨by rw [HN.out]; rfl, HU2.out.trans HV.out⟩

end Go.Proofs.Ytpefcbmmbpcalaa
