/-
  OrderTells' walk.
-/
import Derived.Test.YtpefcbmmbpcalaaDoorAlive20
import Derived.Test.YtpefcbmmbpcalaaDoorRFin
import Derived.Test.YtpefcbmmbpcalaaDoorRResp
import Derived.Test.YtpefcbmmbpcalaaDoorRLong
set_option linter.unusedVariables false
set_option linter.unusedSimpArgs false
namespace Go.Proofs.YtpefcbmmbpcalaaDoor
open Go.RowKit

set_option maxRecDepth 10000 in
set_option maxHeartbeats 4000000 in
theorem orderTells_any (l : List OpD) (A : Option Addr) (c : Nat) (d : Nat) (o : List Int) (B : Option Addr) (cb : Nat) (w : World) (hl : l.length ≤ 9223372036854775807) (hd : d < top64) (ho : o.length ≤ cb) (hcb : cb ≤ 9223372036854775807) (hr : OpRow w A l) (hq : Row w B o.length (IVal o)) (hB : B = none → cb = 0) (hT0 : TabT w) :
    Calls Tryd.prog 3 #[.slice A l.length c, .int .u64 d, .slice B o.length cb] w fun e w' => e = .returned (.bool true) ∧ Up w w' := by
  have HAL := Lib.hid (fun W (u : Up w W) => alive20_any W (hT0.up u))
  by_cases h14 : l.length ≤ 14
  · have hl14 : (l.length : Int) ≤ 14 := by omega
    by_cases h30 : o.length ≤ 30
    · have ho30 : (o.length : Int) ≤ 30 := by omega
      have HFI := Lib.hid (rfine_any l A c w hl hr)
      cases hf : fineP l
      · rw [hf] at HFI
        clear hr hf h14 h30
        go_enter Tryd.func3, Tryd.ntmps3
        go_wp2_with fail
        refine HFI.out.mono ?_
        rintro e w1 ⟨rfl, hu1⟩
        have HU1 := Lib.hid hu1
        clear hu1
        go_wp2_with fail
        refine (HAL.out _ HU1.out).mono ?_
        rintro e w2 ⟨rfl, hu2⟩
        have HU2 := Lib.hid (HU1.out.trans hu2)
        clear hu2
        go_wp2_with fail
        go_ret
        exact ⟨rfl, HU2.out⟩
      · rw [hf] at HFI
        have HR := Lib.hid hr
        have HQ := Lib.hid hq
        have HT := Lib.hid hT0
        have HWI := Lib.hid (fun k W (hk : k < l.length) => rwith_any (overK l k) k W (overK_lt l k (by omega)) (by omega))
        have HOV : Hid (overL l = overK l l.length) := Lib.hid rfl
        have HST : Hid (∀ k, overK l (k + 1) = if (l.getD k op0).to = -1 then overK l k else withN (overK l k) k) := Lib.hid (fun _ => rfl)
        have HON := Lib.hid (fun W u t => onext_any l A c d W hd (by omega) hf (HR.out.up u) t)
        have HRN := Lib.hid (fun W u => next_any l A c d W (by omega) hd (HR.out.up u))
        have HOR := Lib.hid (fun W u => respects_any l o A B c cb W (by omega) (by omega) ho hcb (HR.out.up u) (HQ.out.up u) hB)
        have HRR := Lib.hid (fun W u => rrespects_any l o A B c cb W (by omega) (by omega) (HR.out.up u) (HQ.out.up u))
        have HO := Lib.hid (fun W u => over_any l A c W (by omega) (HR.out.up u))
        have HL := Lib.hid (fun W u => olong_any l A c W (by omega) (HR.out.up u))
        have HRL := Lib.hid (fun W u => rlong_any l A c W (by omega) (HR.out.up u))
        rw [← long_eq] at HRL
        have HNX := Lib.hid (show (iL (nextL l d)).length ≤ 9223372036854775807 by
          rw [iL_len]
          have := nextK_len l d l.length
          unfold nextL
          omega)
        clear hr hq hT0 hf ho hcb hd
        generalize hN : iL (nextL l d) = N at *
        have HN := Lib.hid hN
        generalize hRP : respP l o = rp at *
        generalize maxK (endL l) l.length = ml at *
        clear hN hRP
        go_enter Tryd.func3, Tryd.ntmps3
        go_wp2_with fail
        refine HFI.out.mono ?_
        rintro e w1 ⟨rfl, hu1⟩
        have HU1 := Lib.hid hu1
        clear hu1 HFI
        go_wp2_with fail
        go_loopw [7, 8] (fun s x wr => ∃ k : Nat, k ≤ l.length ∧ x = .int .i64 k ∧ s = .int .u64 (overK l k) ∧ Hid (Up w wr)) (fun _ x _ => l.length - (intOf x).toNat)
        case atStart => exact ⟨0, by omega, rfl, rfl, HU1⟩
        case round =>
          obtain ⟨k, hk, rfl, rfl, HV⟩ := hrel
          by_cases hlt : k < l.length
          · have hki : (k : Int) < l.length := by omega
            have hk0 : (0 : Int) ≤ k := by omega
            obtain ⟨bk, off, rfl, x0, x1, x2, x3, x4⟩ := HR.out.up HV.out k hlt
            have HS := Lib.hid (HST.out k)
            have HWI1 := Lib.hid (fun W => HWI.out k W hlt)
            generalize l.getD k op0 = o1 at *
            obtain ⟨F, T, Wr, V, Th⟩ := o1
            dsimp only at x0 x1 x2 x3 x4 HS
            clear hk hlt
            by_cases ht : T = -1
            · have htb : (T != -1) = false := by rw [ht]; rfl
              have HS2 : Hid (overK l (k + 1) = overK l k) := Lib.hid (by rw [HS.out, if_pos ht])
              clear HS ht
              go_wp2_with fail
              go_roundw
              case rel => exact ⟨k + 1, by omega, by go_num, by rw [HS2.out], HV⟩
              case measure => simp [intOf]; omega
            · have htb : (T != -1) = true := by rw [bne_iff_ne]; exact ht
              have HS2 : Hid (overK l (k + 1) = withN (overK l k) k) := Lib.hid (by rw [HS.out, if_neg ht])
              clear HS ht
              go_wp2_with fail
              refine (HWI1.out _).mono ?_
              rintro e w2 ⟨rfl, rfl⟩
              go_wp2_with fail
              go_roundw
              case rel => exact ⟨k + 1, by omega, by go_num, by rw [HS2.out], HV⟩
              case measure => simp [intOf]; omega
          · obtain rfl : k = l.length := by omega
            have HVA := Lib.hid HV
            rw [← HOV.out]
            clear hlt hk HST HWI HOV
            generalize overL l = ov at *
            go_wp2_with fail
            refine (HON.out _ HV.out (HT.out.up HV.out)).mono ?_
            rintro e w3 ⟨v, rfl, ho3, hu3⟩
            obtain ⟨A3, c3, rfl, hr3⟩ := n_row ho3
            rw [HN.out] at hr3 ⊢
            have HU3 := Lib.hid (HV.out.trans hu3)
            have HR3 := Lib.hid hr3
            clear ho3 hu3 hr3
            go_wp2_with fail
            refine (HRN.out _ HU3.out).mono ?_
            rintro e w4 ⟨v, rfl, ho4, hu4⟩
            obtain ⟨A4, c4, rfl, hr4⟩ := n_row ho4
            rw [HN.out] at hr4 ⊢
            have HU4 := Lib.hid (HU3.out.trans hu4)
            have HI := Lib.hid (ints_any N N A3 A4 c3 c4 w4 HNX.out HNX.out (HR3.out.up hu4) hr4)
            clear ho4 hu4 hr4 HR3
            go_wp2_with fail
            refine HI.out.mono ?_
            rintro e w5 ⟨rfl, hu5⟩
            have HU5 := Lib.hid (HU4.out.trans hu5)
            clear hu5 HI HU3
            go_wp2_with fail
            refine (HOR.out _ HU5.out).mono ?_
            rintro e w6 ⟨rfl, hu6⟩
            have HU6 := Lib.hid (HU5.out.trans hu6)
            clear hu6 HOR HU4
            go_wp2_with fail
            refine (HRR.out _ HU6.out).mono ?_
            rintro e w7 ⟨rfl, hu7⟩
            have HU7 := Lib.hid (HU6.out.trans hu7)
            clear hu7 HRR HU5
            go_wp2_with fail
            refine (HO.out _ HU7.out).mono ?_
            rintro e w8 ⟨rfl, hu8⟩
            have HU8 := Lib.hid (HU7.out.trans hu8)
            clear hu8 HO HU6
            go_wp2_with fail
            refine (HL.out _ HU8.out).mono ?_
            rintro e w9 ⟨rfl, hu9⟩
            have HU9 := Lib.hid (HU8.out.trans hu9)
            clear hu9 HL HU7
            go_wp2_with fail
            refine (HRL.out _ HU9.out).mono ?_
            rintro e w10 ⟨rfl, hu10⟩
            have HU10 := Lib.hid (HU9.out.trans hu10)
            clear hu10 HRL HU8
            go_wp2_with fail
            refine (HAL.out _ HU10.out).mono ?_
            rintro e w11 ⟨rfl, hu11⟩
            have HU11 := Lib.hid (HU10.out.trans hu11)
            clear hu11
            go_wp2_with fail
            go_ret
            exact ⟨rfl, HU11.out⟩
    · have ho30 : (30 : Int) < (o.length : Int) := by omega
      clear hr hq h14 h30
      go_enter Tryd.func3, Tryd.ntmps3
      go_wp2_with fail
      refine (HAL.out _ (Up.refl _)).mono ?_
      rintro e w2 ⟨rfl, hu2⟩
      have HU2 := Lib.hid hu2
      clear hu2
      go_wp2_with fail
      go_ret
      exact ⟨rfl, HU2.out⟩
  · have hl14 : (14 : Int) < (l.length : Int) := by omega
    clear hr hq h14
    go_enter Tryd.func3, Tryd.ntmps3
    go_wp2_with fail
    refine (HAL.out _ (Up.refl _)).mono ?_
    rintro e w2 ⟨rfl, hu2⟩
    have HU2 := Lib.hid hu2
    clear hu2
    go_wp2_with fail
    go_ret
    exact ⟨rfl, HU2.out⟩

end Go.Proofs.YtpefcbmmbpcalaaDoor
