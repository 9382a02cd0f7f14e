/-
  The document's Respects.
-/
import Derived.Test.YtpefcbmmbpcalaaDoorRespP
import Derived.Test.YtpefcbmmbpcalaaDoorStill
import Derived.Deep.DeepCutAuto
set_option linter.unusedVariables false
set_option linter.unusedSimpArgs false
namespace Go.Proofs.YtpefcbmmbpcalaaDoor
open Go.RowKit

theorem resp_no_all {l : List OpD} {o : List Int} {k : Nat} (hk : k < l.length) (h : thereB l o k = false) : respP l o = false := by
  unfold respP allB; rw [all_no hk h]; simp
theorem resp_yes {l : List OpD} {o : List Int} (h1 : inAll l o o.length = true) (h2 : rowAll l o o.length = true) (h3 : allB l o l.length = true) : respP l o = true := by
  unfold respP; rw [h1, h2, h3]; rfl

set_option maxRecDepth 10000 in
set_option maxHeartbeats 4000000 in
theorem rrespects_any (l : List OpD) (o : List Int) (A B : Option Addr) (c d : Nat) (w : World) (hL : l.length ≤ 1000000) (ho : o.length ≤ 1000000) (hr : OpRow w A l) (hq : Row w B o.length (IVal o)) :
    Calls Tryd.prog 15 #[.slice A l.length c, .slice B o.length d] w fun e w' => e = .returned (.bool (respP l o)) ∧ Up w w' := by
  have HR := Lib.hid hr
  have HQ := Lib.hid hq
  have hli : (l.length : Int) ≤ 1000000 := by omega
  have hoi : (o.length : Int) ≤ 1000000 := by omega
  have HNI := Lib.hid (fun k (h1 : k < o.length) (h2 : inR l (o.getD k 0) = false) => resp_no_in h1 h2)
  have HNR := Lib.hid (fun k (h1 : k < o.length) (h2 : rowB l o k = false) => resp_no_row h1 h2)
  have HNA := Lib.hid (fun k (h1 : k < l.length) (h2 : thereB l o k = false) => resp_no_all h1 h2)
  have HYE := Lib.hid (fun (h1 : inAll l o o.length = true) (h2 : rowAll l o o.length = true) (h3 : allB l o l.length = true) => resp_yes h1 h2 h3)
  clear hr hq hL ho
  generalize hre : respP l o = re at *
  clear hre
  go_enter Tryd.func15, Tryd.ntmps15
  go_wp2_with fail
  go_loopw [5] (fun x wr => ∃ k : Nat, k ≤ o.length ∧ x = .int .i64 k ∧ Hid (inAll l o k = true) ∧ Hid (w = wr)) (fun x _ => o.length - (intOf x).toNat)
  case atStart => exact ⟨0, by omega, rfl, Lib.hid rfl, Lib.hid rfl⟩
  case round =>
    obtain ⟨k, hk, rfl, HIN, HW⟩ := hrel
    have hw := HW.out
    subst hw
    by_cases hlt : k < o.length
    · have hki : (k : Int) < o.length := by omega
      have hk0 : (0 : Int) ≤ k := by omega
      obtain ⟨b1, off1, eB, y0⟩ := HQ.out k hlt
      subst eB
      unfold IVal at y0
      have HN1 := Lib.hid (HNI.out k hlt)
      have HI1 := Lib.hid (inAll_succ l o k)
      generalize o.getD k 0 = pl at *
      by_cases h1 : pl < 0
      · have HF := Lib.hid (HN1.out (by unfold inR; rw [decide_eq_false (show ¬ 0 ≤ pl by omega)]; rfl))
        clear HI1
        go_wp2_with fail
        go_ret
        exact ⟨by rw [HF.out]; rfl, Up.refl _⟩
      · by_cases h2 : (l.length : Int) ≤ pl
        · have HF := Lib.hid (HN1.out (by unfold inR; rw [decide_eq_false (show ¬ pl < l.length by omega), Bool.and_false]))
          have h1' : 0 ≤ pl := by omega
          clear h1 HI1
          go_wp2_with fail
          go_ret
          exact ⟨by rw [HF.out]; rfl, Up.refl _⟩
        · have hpi : pl < l.length := by omega
          have hp0 : 0 ≤ pl := by omega
          have HIS : Hid (inAll l o (k + 1) = true) := Lib.hid (by rw [HI1.out, HIN.out]; unfold inR; rw [decide_eq_true hp0, decide_eq_true hpi]; rfl)
          clear h1 h2 HN1 HI1
          go_wp2_with fail
          go_roundw
          case rel => exact ⟨k + 1, by omega, by go_num, HIS, Lib.hid (by trivial)⟩
          case measure => simp [intOf]; omega
    · obtain rfl : k = o.length := by omega
      clear hlt
      have HALL := Lib.hid (fun q (hq : q < o.length) => inR_parts (all_at HIN.out hq))
      go_wp2_with fail
      go_loopw [6] (fun x wr => ∃ i : Nat, i ≤ o.length ∧ x = .int .i64 i ∧ Hid (rowAll l o i = true) ∧ Hid (Up w wr)) (fun x _ => o.length - (intOf x).toNat)
      case atStart => exact ⟨0, by omega, rfl, Lib.hid rfl, Lib.hid (Up.refl _)⟩
      case round =>
        obtain ⟨i, hi, rfl, HRO, HV⟩ := hrel
        by_cases hlt : i < o.length
        · have hii : (i : Int) < o.length := by omega
          have hi0 : (0 : Int) ≤ i := by omega
          have HN2 := Lib.hid (HNR.out i hlt)
          have HR1 := Lib.hid (rowAll_succ l o i)
          have HRK := Lib.hid (fun q => rowK_succ l o i q)
          have HRB : Hid (rowB l o i = rowK l o i i) := Lib.hid rfl
          have HRN := Lib.hid (fun q (hq : q < i) (h : pairB l (o.getD i 0) (o.getD q 0) = false) => row_no hq h)
          have HPB : Hid (∀ y, pairB l (o.getD i 0) y = (!(y == o.getD i 0) && !aheadB (l.getD (o.getD i 0).toNat op0) (l.getD y.toNat op0))) := Lib.hid (fun _ => rfl)
          have hpl := HALL.out i hlt
          have HYI := Lib.hid (fun W (u : Up w W) => (HQ.out.up u) i hlt)
          unfold IVal at HYI
          generalize o.getD i 0 = pl at *
          obtain ⟨p, rfl⟩ : ∃ p : Nat, pl = p := ⟨pl.toNat, by omega⟩
          have hpi : (p : Int) < l.length := by omega
          have hp0 : (0 : Int) ≤ p := by omega
          have HPL : Hid (p < l.length) := Lib.hid (by omega)
          go_wp2_with fail
          go_loopw [7] (fun x wr => ∃ q : Nat, q ≤ i ∧ x = .int .i64 q ∧ Hid (rowK l o i q = true) ∧ Hid (Up w wr)) (fun x _ => i - (intOf x).toNat)
          case atStart => exact ⟨0, by omega, rfl, Lib.hid rfl, HV⟩
          case round =>
            obtain ⟨q, hqk, rfl, HRQ, HVQ⟩ := hrel
            by_cases hqt : q < i
            · have hqi : (q : Int) < i := by omega
              have hqo : (q : Int) < o.length := by omega
              have hq0 : (0 : Int) ≤ q := by omega
              obtain ⟨b2, off2, e2, z0⟩ := HQ.out.up HVQ.out q (by omega)
              subst e2
              unfold IVal at z0
              obtain ⟨b3, off3, e3, y0⟩ := HYI.out _ HVQ.out
              cases e3
              have hall := HALL.out q (by omega)
              have HRN2 := Lib.hid (HRN.out q hqt)
              have HRK2 := Lib.hid (HRK.out q)
              have HPB2 := Lib.hid (HPB.out (o.getD q 0))
              generalize o.getD q 0 = ql at *
              obtain ⟨e, rfl⟩ : ∃ e : Nat, ql = e := ⟨ql.toNat, by omega⟩
              have hei : (e : Int) < l.length := by omega
              have he0 : (0 : Int) ≤ e := by omega
              rw [show ((e : Int)).toNat = e from rfl, show ((p : Int)).toNat = p from rfl] at HPB2
              obtain ⟨bp, offp, eA, p0, p1, p2, p3, p4⟩ := HR.out.up HVQ.out p HPL.out
              subst eA
              obtain ⟨be, offe, eA, q0, q1, q2, q3, q4⟩ := HR.out.up HVQ.out e (by omega)
              cases eA
              have HAH := Lib.hid (fun W => rahead_any (l.getD p op0) (l.getD e op0) W)
              have cy := upCell y0
              have cz := upCell z0
              have c0 := upCell p0
              have c1 := upCell p1
              have c2 := upCell p2
              have c3 := upCell p3
              have c4 := upCell p4
              have d0 := upCell q0
              have d1 := upCell q1
              have d2 := upCell q2
              have d3 := upCell q3
              have d4 := upCell q4
              clear p0 p1 p2 p3 p4 q0 q1 q2 q3 q4 hall y0 z0
              generalize aheadB (l.getD p op0) (l.getD e op0) = ah at *
              generalize l.getD p op0 = x at *
              generalize l.getD e op0 = y at *
              obtain ⟨PF, PT, PW, PV, PH⟩ := x
              obtain ⟨QF, QT, QW, QV, QH⟩ := y
              unfold oagg at HAH
              dsimp only at HAH c0 c1 c2 c3 c4 d0 d1 d2 d3 d4
              obtain ⟨eb, heb⟩ : ∃ eb, ((e : Int) == (p : Int)) = eb := ⟨_, rfl⟩
              rw [heb] at HPB2
              cases eb
              · cases ah
                · have HR4 : Hid (rowK l o i (q + 1) = true) := Lib.hid (by rw [HRK2.out, HRQ.out, HPB2.out]; rfl)
                  clear HRN2 HRK2 HPB2
                  go_wp2_with fail
                  refine wp_region_up (w0 := wr) (by kernel_rfl) (by kernel_rfl) (Up.refl _) ?_
                  repeat (go_big_quiet_step ((go_at_call 25; with_reducible exact callAbove HAH.out _)))
                  refine wpQuiet_nil ?_
                  rintro wz ⟨⟨wy, huy⟩, hwy⟩
                  have huz : Up wr wz := by rw [hwy]; exact huy
                  clear hwy huy
                  go_wp2_with fail
                  go_roundw
                  case rel => exact ⟨q + 1, by omega, by go_num, HR4, Lib.hid (HVQ.out.trans huz)⟩
                  case measure => simp [intOf]; omega
                · have HF := Lib.hid (HN2.out (HRN2.out (by rw [HPB2.out]; rfl)))
                  clear HRN2 HRK2 HPB2
                  go_wp2_with fail
                  refine wp_region_up (w0 := wr) (by kernel_rfl) (by kernel_rfl) (Up.refl _) ?_
                  repeat (go_big_quiet_step ((go_at_call 25; with_reducible exact callAbove HAH.out _)))
                  refine wpQuiet_nil ?_
                  rintro wz ⟨⟨wy, huy⟩, hwy⟩
                  have huz : Up wr wz := by rw [hwy]; exact huy
                  clear hwy huy
                  go_wp2_with fail
                  go_ret
                  exact ⟨by rw [HF.out]; rfl, HVQ.out.trans huz⟩
              · have HF := Lib.hid (HN2.out (HRN2.out (by rw [HPB2.out]; rfl)))
                clear HRN2 HRK2 HPB2
                go_wp2_with fail
                refine wp_region_up (w0 := wr) (by kernel_rfl) (by kernel_rfl) (Up.refl _) ?_
                repeat (go_big_quiet_step (fail))
                refine wpQuiet_nil ?_
                rintro wz ⟨⟨wy, huy⟩, hwy⟩
                have huz : Up wr wz := by rw [hwy]; exact huy
                clear hwy huy
                go_wp2_with fail
                go_ret
                exact ⟨by rw [HF.out]; rfl, HVQ.out.trans huz⟩
            · obtain rfl : q = i := by omega
              clear hqt
              have HR5 : Hid (rowAll l o (q + 1) = true) := Lib.hid (by rw [HR1.out, HRO.out, HRB.out, HRQ.out]; rfl)
              go_wp2_with fail
              go_roundw
              case rel => exact ⟨q + 1, by omega, by go_num, HR5, HVQ⟩
              case measure => simp [intOf]; omega
        · obtain rfl : i = o.length := by omega
          clear hlt
          go_wp2_with fail
          go_loopw [8] (fun x wr => ∃ n : Nat, n ≤ l.length ∧ x = .int .i64 n ∧ Hid (allB l o n = true) ∧ Hid (Up w wr)) (fun x _ => l.length - (intOf x).toNat)
          case atStart => exact ⟨0, by omega, rfl, Lib.hid rfl, HV⟩
          case round =>
            obtain ⟨n, hn, rfl, HAL, HVN⟩ := hrel
            by_cases hlt : n < l.length
            · have hni : (n : Int) < l.length := by omega
              have hn0 : (0 : Int) ≤ n := by omega
              obtain ⟨bk, off, eA, x0, x1, x2, x3, x4⟩ := HR.out.up HVN.out n hlt
              subst eA
              have HTB : Hid (thereB l o n = thereK l o n o.length) := Lib.hid rfl
              have HTK := Lib.hid (fun q => thereK_succ l o n q)
              have HT0 : Hid (thereK l o n 0 = ((l.getD n op0).to == -1)) := Lib.hid (by unfold thereK; simp)
              have HN3 := Lib.hid (HNA.out n hlt)
              have HA1 := Lib.hid (allB_succ l o n)
              generalize l.getD n op0 = on at *
              obtain ⟨NF, NT, NW, NV, NH⟩ := on
              dsimp only at x0 x1 x2 x3 x4 HT0
              go_wp2_with fail
              rw [← HT0.out]
              go_loopw [9, 10] (fun b x wr => ∃ q : Nat, q ≤ o.length ∧ x = .int .i64 q ∧ b = .bool (thereK l o n q) ∧ Hid (Up w wr)) (fun _ x _ => o.length - (intOf x).toNat)
              case atStart => exact ⟨0, by omega, rfl, rfl, HVN⟩
              case round =>
                obtain ⟨q, hqk, rfl, rfl, HVQ⟩ := hrel
                by_cases hqt : q < o.length
                · have hqi : (q : Int) < o.length := by omega
                  have hq0 : (0 : Int) ≤ q := by omega
                  obtain ⟨b2, off2, e2, z0⟩ := HQ.out.up HVQ.out q hqt
                  subst e2
                  unfold IVal at z0
                  have HT1 := Lib.hid (HTK.out q)
                  generalize o.getD q 0 = ql at *
                  obtain ⟨tb, htb⟩ : ∃ tb, thereK l o n q = tb := ⟨_, rfl⟩
                  rw [htb] at HT1
                  rw [htb]
                  clear htb
                  cases tb
                  · have HT2 : Hid (thereK l o n (q + 1) = (ql == (n : Int))) := Lib.hid (by rw [HT1.out, Bool.false_or])
                    clear HT1
                    go_wp2_with fail
                    go_roundw
                    case rel => exact ⟨q + 1, by omega, by go_num, by rw [HT2.out], HVQ⟩
                    case measure => simp [intOf]; omega
                  · have HT2 : Hid (thereK l o n (q + 1) = true) := Lib.hid (by rw [HT1.out, Bool.true_or])
                    clear HT1
                    go_wp2_with fail
                    go_roundw
                    case rel => exact ⟨q + 1, by omega, by go_num, by rw [HT2.out], HVQ⟩
                    case measure => simp [intOf]; omega
                · obtain rfl : q = o.length := by omega
                  clear hqt
                  obtain ⟨tb, htb⟩ : ∃ tb, thereK l o n o.length = tb := ⟨_, rfl⟩
                  rw [htb] at HTB
                  rw [htb]
                  clear htb
                  cases tb
                  · have HF := Lib.hid (HN3.out HTB.out)
                    clear HA1
                    go_wp2_with fail
                    go_ret
                    exact ⟨by rw [HF.out]; rfl, HVQ.out⟩
                  · have HA2 : Hid (allB l o (n + 1) = true) := Lib.hid (by rw [HA1.out, HAL.out, HTB.out]; rfl)
                    clear HA1
                    go_wp2_with fail
                    go_roundw
                    case rel => exact ⟨n + 1, by omega, by go_num, HA2, HVQ⟩
                    case measure => simp [intOf]; omega
            · obtain rfl : n = l.length := by omega
              clear hlt
              have HY := Lib.hid (HYE.out HIN.out HRO.out HAL.out)
              go_wp2_with fail
              go_ret
              exact ⟨by rw [HY.out]; rfl, HVN.out⟩

end Go.Proofs.YtpefcbmmbpcalaaDoor
