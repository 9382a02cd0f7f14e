/-
  order.Respects.
-/
import Derived.Test.YtpefcbmmbpcalaaDoorOver
import Derived.Test.YtpefcbmmbpcalaaDoorStill
import Derived.Deep.DeepCutAuto
set_option linter.unusedVariables false
set_option linter.unusedSimpArgs false
namespace Go.Proofs.YtpefcbmmbpcalaaDoor
open Go.RowKit

set_option maxRecDepth 10000 in
set_option maxHeartbeats 4000000 in
theorem respects_any (l : List OpD) (o : List Int) (A B : Option Addr) (c d : Nat) (w : World) (hL : l.length ≤ 64) (ho : o.length ≤ 9223372036854775807) (hd : o.length ≤ d) (hd2 : d ≤ 9223372036854775807) (hr : OpRow w A l) (hq : Row w B o.length (IVal o)) (hBn : B = none → d = 0) :
    Calls Tryd.prog 14 #[.slice A l.length c, .slice B o.length d] w fun e w' => e = .returned (.bool (respP l o)) ∧ Up w w' := by
  have HR := Lib.hid hr
  have HQ := Lib.hid hq
  have hl64 : (l.length : Int) ≤ 64 := by omega
  have hoi : (o.length : Int) ≤ 9223372036854775807 := by omega
  have hdi : (d : Int) ≤ 9223372036854775807 := by omega
  have hod : (o.length : Int) ≤ d := by omega
  have HNI := Lib.hid (fun k (h1 : k < o.length) (h2 : inR l (o.getD k 0) = false) => resp_no_in h1 h2)
  have HNR := Lib.hid (fun k (h1 : k < o.length) (h2 : rowB l o k = false) => resp_no_row h1 h2)
  have HLA := Lib.hid (fun (h1 : inAll l o o.length = true) (h2 : rowAll l o o.length = true) => resp_last hL h1 h2)
  have HOV := Lib.hid (fun W (u : Up w W) => over_any l A c W hL (hr.up u))
  have HTL : Hid (∀ k, k ≤ o.length → inAll l o k = true → thereN o k < top64) := Lib.hid (fun k _ h => thereN_lt k (fun i hi => by
    have := inR_parts (all_at h hi); omega))
  have HBN := Lib.hid hBn
  have HDL := Lib.hid hd
  clear hr hq ho hd hd2 hBn
  generalize hre : respP l o = re at *
  clear hre
  go_enter Tryd.func14, Tryd.ntmps14
  go_wp2_with fail
  go_loopw [5, 12] (fun s x wr => ∃ k : Nat, k ≤ o.length ∧ x = .int .i64 k ∧ s = .int .u64 (thereN o k) ∧ Hid (inAll l o k = true) ∧ Hid (rowAll l o k = true) ∧ Hid (Up w wr)) (fun _ x _ => o.length - (intOf x).toNat)
  case atStart => exact ⟨0, by omega, rfl, rfl, Lib.hid rfl, Lib.hid rfl, Lib.hid (Up.refl _)⟩
  case round =>
    obtain ⟨k, hk, rfl, rfl, HIN, HRO, HV⟩ := hrel
    have HTK := Lib.hid (HTL.out k hk HIN.out)
    by_cases hlt : k < o.length
    · have hki : (k : Int) < o.length := by omega
      have hk0 : (0 : Int) ≤ k := by omega
      obtain ⟨b1, off1, eB, y0⟩ := HQ.out.up HV.out k hlt
      subst eB
      unfold IVal at y0
      have HN1 := Lib.hid (HNI.out k hlt)
      have HN2 := Lib.hid (HNR.out k hlt)
      have HHT := Lib.hid (fun (h0 : 0 ≤ o.getD k 0) (h : hasB (thereN o k) (o.getD k 0).toNat = true) => has_there HIN.out h0 h)
      have HRT := Lib.hid (fun q (h0 : 0 ≤ o.getD k 0) (hq : q < k) (h : hasB (thereN o k) (o.getD k 0).toNat = false) => row_there HIN.out h0 hq h)
      have HI1 := Lib.hid (inAll_succ l o k)
      have HR1 := Lib.hid (rowAll_succ l o k)
      have HTS : Hid (thereN o (k + 1) = withN (thereN o k) (o.getD k 0).toNat) := Lib.hid rfl
      have HRK := Lib.hid (fun q => rowK_succ l o k q)
      have HRB : Hid (rowB l o k = rowK l o k k) := Lib.hid rfl
      have HRN := Lib.hid (fun q (hq : q < k) (h : pairB l (o.getD k 0) (o.getD q 0) = false) => row_no hq h)
      have HPB : Hid (∀ y, pairB l (o.getD k 0) y = (!(y == o.getD k 0) && !aheadB (l.getD (o.getD k 0).toNat op0) (l.getD y.toNat op0))) := Lib.hid (fun _ => rfl)
      have HALL := Lib.hid (fun q (hq : q < k) => inR_parts (all_at HIN.out hq))
      generalize hpl : o.getD k 0 = pl at *
      clear hpl
      by_cases h1 : pl < 0
      · have HF := Lib.hid (HN1.out (by unfold inR; rw [decide_eq_false (show ¬ 0 ≤ pl by omega)]; rfl))
        clear HHT HRT
        go_wp2_with fail
        go_ret
        exact ⟨by rw [HF.out]; rfl, HV.out⟩
      · by_cases h2 : (l.length : Int) ≤ pl
        · have HF := Lib.hid (HN1.out (by unfold inR; rw [decide_eq_false (show ¬ pl < l.length by omega), Bool.and_false]))
          have h1' : 0 ≤ pl := by omega
          clear HHT HRT h1
          go_wp2_with fail
          go_ret
          exact ⟨by rw [HF.out]; rfl, HV.out⟩
        · obtain ⟨p, rfl⟩ : ∃ p : Nat, pl = p := ⟨pl.toNat, by omega⟩
          have hpi : (p : Int) < l.length := by omega
          have hp0 : (0 : Int) ≤ p := by omega
          have hp64 : (p : Int) < 64 := by omega
          have HPL : Hid (p < l.length) := Lib.hid (by omega)
          rw [show ((p : Int)).toNat = p from rfl] at HHT HRT HTS
          have HHA := Lib.hid (fun W => mhas_any (thereN o k) p W HTK.out (by omega))
          have HWI := Lib.hid (fun W => mwith_any (thereN o k) p W HTK.out (by omega))
          have hg1 : decide ((p : Int) < 0) = false := decide_eq_false (by omega)
          have hg2 : decide ((l.length : Int) ≤ (p : Int)) = false := decide_eq_false (by omega)
          have hg3 : decide ((64 : Int) ≤ (p : Int)) = false := decide_eq_false (by omega)
          have HIS : Hid (inAll l o (k + 1) = true) := Lib.hid (by rw [HI1.out, HIN.out]; unfold inR; rw [decide_eq_true hp0, decide_eq_true hpi]; rfl)
          clear h1 h2 HN1 HI1
          cases hhb : hasB (thereN o k) p
          · rw [hhb] at HHA
            have HRT2 := Lib.hid (fun q (hq : q < k) => HRT.out q hp0 hq hhb)
            clear HHT HRT hhb
            go_wp2_with fail
            refine (HHA.out _).mono ?_
            rintro e w1 ⟨rfl, rfl⟩
            go_wp2_with fail
            refine (HWI.out _).mono ?_
            rintro e w1 ⟨rfl, rfl⟩
            go_wp2_with fail
            go_loopw [41] (fun x wr => ∃ q : Nat, q ≤ k ∧ x = .int .i64 q ∧ Hid (rowK l o k q = true) ∧ Hid (Up w wr)) (fun x _ => k - (intOf x).toNat)
            case atStart => exact ⟨0, by omega, rfl, Lib.hid rfl, HV⟩
            case round =>
              obtain ⟨q, hqk, rfl, HRQ, HVQ⟩ := hrel
              by_cases hqt : q < k
              · have hqi : (q : Int) < k := by omega
                have hq0 : (0 : Int) ≤ q := by omega
                obtain ⟨b2, off2, e2, z0⟩ := HQ.out.up HVQ.out q (by omega)
                cases e2
                unfold IVal at z0
                have HRT3 := Lib.hid (HRT2.out q hqt)
                have hall := HALL.out q hqt
                have HRN2 := Lib.hid (HRN.out q hqt)
                have HRK2 := Lib.hid (HRK.out q)
                have HPB2 := Lib.hid (HPB.out (o.getD q 0))
                generalize o.getD q 0 = ql at *
                obtain ⟨e, rfl⟩ : ∃ e : Nat, ql = e := ⟨ql.toNat, by omega⟩
                have hei : (e : Int) < l.length := by omega
                have he0 : (0 : Int) ≤ e := by omega
                rw [show ((e : Int)).toNat = e from rfl, show ((p : Int)).toNat = p from rfl] at HPB2
                obtain ⟨bp, offp, eA, p0, p1, p2, p3, p4⟩ := HR.out.up HVQ.out p HPL.out
                subst eA
                obtain ⟨be, offe, eA, q0, q1, q2, q3, q4⟩ := HR.out.up HVQ.out e (by omega)
                cases eA
                have HAH := Lib.hid (fun W => ahead_any (l.getD p op0) (l.getD e op0) W)
                have c0 := upCell p0
                have c1 := upCell p1
                have c2 := upCell p2
                have c3 := upCell p3
                have c4 := upCell p4
                have d0 := upCell q0
                have d1 := upCell q1
                have d2 := upCell q2
                have d3 := upCell q3
                have d4 := upCell q4
                clear p0 p1 p2 p3 p4 q0 q1 q2 q3 q4 hall
                generalize aheadB (l.getD p op0) (l.getD e op0) = ah at *
                generalize l.getD p op0 = x at *
                generalize l.getD e op0 = y at *
                obtain ⟨PF, PT, PW, PV, PH⟩ := x
                obtain ⟨QF, QT, QW, QV, QH⟩ := y
                unfold oagg at HAH
                dsimp only at HAH c0 c1 c2 c3 c4 d0 d1 d2 d3 d4
                cases ah
                · have HR4 : Hid (rowK l o k (q + 1) = true) := Lib.hid (by rw [HRK2.out, HRQ.out, HPB2.out, HRT3.out]; rfl)
                  clear HRN2 HRK2 HPB2 HRT3
                  go_wp2_with fail
                  refine wp_region_up (w0 := wr) (by kernel_rfl) (by kernel_rfl) (Up.refl _) ?_
                  repeat (go_big_quiet_step ((go_at_call 32; with_reducible exact callAbove HAH.out _)))
                  refine wpQuiet_nil ?_
                  rintro wz ⟨⟨wy, huy⟩, hwy⟩
                  have huz : Up wr wz := by rw [hwy]; exact huy
                  clear hwy huy
                  go_wp2_with fail
                  go_roundw
                  case rel => exact ⟨q + 1, by omega, by go_num, HR4, Lib.hid (HVQ.out.trans huz)⟩
                  case measure => simp [intOf]; omega
                · have HF := Lib.hid (HN2.out (HRN2.out (by rw [HPB2.out]; simp)))
                  clear HRN2 HRK2 HPB2 HRT3
                  go_wp2_with fail
                  refine wp_region_up (w0 := wr) (by kernel_rfl) (by kernel_rfl) (Up.refl _) ?_
                  repeat (go_big_quiet_step ((go_at_call 32; with_reducible exact callAbove HAH.out _)))
                  refine wpQuiet_nil ?_
                  rintro wz ⟨⟨wy, huy⟩, hwy⟩
                  have huz : Up wr wz := by rw [hwy]; exact huy
                  clear hwy huy
                  go_wp2_with fail
                  go_ret
                  exact ⟨by rw [HF.out]; rfl, HVQ.out.trans huz⟩
              · obtain rfl : q = k := by omega
                clear hqt
                have HR5 : Hid (rowAll l o (q + 1) = true) := Lib.hid (by rw [HR1.out, HRO.out, HRB.out, HRQ.out]; rfl)
                go_wp2_with fail
                go_roundw
                case rel => exact ⟨q + 1, by omega, by go_num, by rw [HTS.out], HIS, HR5, HVQ⟩
                case measure => simp [intOf]; omega
          · rw [hhb] at HHA
            have HF := Lib.hid (HN2.out (HHT.out hp0 hhb))
            clear HHT HRT hhb
            go_wp2_with fail
            refine (HHA.out _).mono ?_
            rintro e w1 ⟨rfl, rfl⟩
            go_wp2_with fail
            go_ret
            exact ⟨by rw [HF.out]; rfl, HV.out⟩
    · obtain rfl : k = o.length := by omega
      clear hlt
      have hand := bits_andNot (overL l) (thereN o o.length) (overK_lt l _ hL) HTK.out
      have HLE := Lib.hid (HLA.out HIN.out HRO.out)
      have HO1 := Lib.hid (HOV.out _ HV.out)
      have hz : ((diffN (overL l) (thereN o o.length) : Int) == 0) = (diffN (overL l) (thereN o o.length) == 0) := by
        rw [Bool.eq_iff_iff, beq_iff_eq, beq_iff_eq]; omega
      generalize diffN (overL l) (thereN o o.length) = df at *
      generalize thereN o o.length = tn at *
      generalize overL l = ov at *
      go_wp2_with fail
      refine HO1.out.mono ?_
      rintro e w1 ⟨rfl, hu1⟩
      have HU1 := Lib.hid (HV.out.trans hu1)
      clear hu1
      go_wp2_with fail
      go_ret
      exact ⟨by rw [HLE.out, ← hz]; rfl, HU1.out⟩

end Go.Proofs.YtpefcbmmbpcalaaDoor
