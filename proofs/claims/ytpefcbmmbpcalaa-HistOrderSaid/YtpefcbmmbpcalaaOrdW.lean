/-
  HistOrder's walk.
-/
import Derived.Test.YtpefcbmmbpcalaaAlive19
import Derived.Test.YtpefcbmmbpcalaaLinP
import Derived.Deep.DeepCutAuto
import Derived.Deep.RegionHeld3
import Derived.BigQuiet
import Derived.Test.YtpefcbmmbpcalaaStill
set_option linter.unusedVariables false
set_option linter.unusedSimpArgs false
namespace Go.Proofs.Ytpefcbmmbpcalaa
open Go.RowKit

theorem fine_to {l : List OpD} (hf : fineP l = true) {i : Nat} (hi : i < l.length) : (l.getD i op0).to = -1 ∨ (l.getD i op0).frm ≤ (l.getD i op0).to := (okOp_parts (fineP_at hf i hi)).2.1
theorem ahead_anti {l : List OpD} (hf : fineP l = true) {i k : Nat} (hi : i < l.length) (hk : k < l.length) (h : aheadB (l.getD i op0) (l.getD k op0) = true) : aheadB (l.getD k op0) (l.getD i op0) = false := by
  cases hh : aheadB (l.getD k op0) (l.getD i op0)
  · rfl
  · obtain ⟨h1, h2⟩ := ahead_of.1 h
    obtain ⟨h3, h4⟩ := ahead_of.1 hh
    have a := fine_to hf hi
    have b := fine_to hf hk
    omega
theorem ahead_tr {l : List OpD} (hf : fineP l = true) {i k n : Nat} (hk : k < l.length) (h : aheadB (l.getD i op0) (l.getD k op0) = true) (h2 : aheadB (l.getD k op0) (l.getD n op0) = true) : aheadB (l.getD i op0) (l.getD n op0) = true := by
  obtain ⟨a1, a2⟩ := ahead_of.1 h
  obtain ⟨a3, a4⟩ := ahead_of.1 h2
  have b := fine_to hf hk
  exact ahead_of.2 ⟨a1, by omega⟩
theorem both_thread {l : List OpD} (hf : fineP l = true) {i k : Nat} (hi : i < l.length) (hk : k < l.length) (hne : i ≠ k) (ht : (l.getD i op0).thr = (l.getD k op0).thr) : bothB (l.getD i op0) (l.getD k op0) = false := by
  unfold bothB
  rcases Nat.lt_or_gt_of_ne hne with h | h
  · rw [thread_ahead hf k hk i h ht]; rfl
  · rw [thread_ahead hf i hi k h ht.symm]; cases aheadB (l.getD i op0) (l.getD k op0) <;> rfl

set_option maxRecDepth 10000 in
set_option maxHeartbeats 4000000 in
theorem histOrder_any (l : List OpD) (A : Option Addr) (c : Nat) (w : World) (hlen : l.length ≤ 9223372036854775807) (hr : OpRow w A l) :
    Calls Try.prog 4 #[.slice A l.length c] w fun e w' => e = .returned (.bool true) ∧ Up w w' := by
  have HAL := Lib.hid (fun W => alive19_any W)
  by_cases h25 : l.length ≤ 25
  · have hl25 : (l.length : Int) ≤ 25 := by omega
    have HFI := Lib.hid (fine_any l A c w (by omega) hr)
    have HR := Lib.hid hr
    cases hf : fineP l
    · rw [hf] at HFI
      clear hr hf h25
      go_enter Try.func4, Try.ntmps4
      go_wp2_with fail
      refine HFI.out.mono ?_
      rintro e w1 ⟨rfl, hu1⟩
      have HU1 := Lib.hid hu1
      clear hu1
      go_wp2_with fail
      refine (HAL.out _).mono ?_
      rintro e w2 ⟨rfl, hu2⟩
      have HU2 := Lib.hid (HU1.out.trans hu2)
      clear hu2
      go_wp2_with fail
      go_ret
      exact ⟨rfl, HU2.out⟩
    · rw [hf] at HFI
      have HNN := Lib.hid (fun i k (hi : i < l.length) (hk : k < l.length) => ahead_anti hf hi hk)
      have HTR := Lib.hid (fun i k n (hk : k < l.length) => ahead_tr hf (i := i) (n := n) hk)
      have HTH := Lib.hid (fun i k (hi : i < l.length) (hk : k < l.length) => both_thread hf hi hk)
      clear hr hf h25
      go_enter Try.func4, Try.ntmps4
      go_wp2_with fail
      refine HFI.out.mono ?_
      rintro e w1 ⟨rfl, hu1⟩
      have HU1 := Lib.hid hu1
      clear hu1
      go_wp2_with fail
      go_loopw [3] (fun x wr => ∃ i : Nat, i ≤ l.length ∧ x = .int .i64 i ∧ Hid (Up w wr)) (fun x _ => l.length - (intOf x).toNat)
      case atStart => exact ⟨0, by omega, rfl, HU1⟩
      case round =>
        obtain ⟨i, hi, rfl, HVI⟩ := hrel
        by_cases hli : i < l.length
        · have hii : (i : Int) < l.length := by omega
          have hi0 : (0 : Int) ≤ i := by omega
          have HI := Lib.hid hli
          go_wp2_with fail
          go_loopw [4] (fun x wr => ∃ k : Nat, k ≤ l.length ∧ x = .int .i64 k ∧ Hid (Up w wr)) (fun x _ => l.length - (intOf x).toNat)
          case atStart => exact ⟨0, by omega, rfl, HVI⟩
          case round =>
            obtain ⟨k, hk, rfl, HVK⟩ := hrel
            by_cases hlk : k < l.length
            · have hki : (k : Int) < l.length := by omega
              have hk0 : (0 : Int) ≤ k := by omega
              have HK := Lib.hid hlk
              obtain ⟨bi, offi, rfl, i0', i1, i2, i3, i4⟩ := HR.out.up HVK.out i hli
              obtain ⟨bk, offk, eB, k0, k1, k2, k3, k4⟩ := HR.out.up HVK.out k hlk
              cases eB
              have HIK := Lib.hid (fun W => ahead_any (l.getD i op0) (l.getD k op0) W)
              have HKI := Lib.hid (fun W => ahead_any (l.getD k op0) (l.getD i op0) W)
              have HBO := Lib.hid (fun W => both_any (l.getD i op0) (l.getD k op0) W)
              have HN1 := Lib.hid (HNN.out i k hli hlk)
              have HT1 := Lib.hid (HTR.out i k)
              have HB1 := Lib.hid (HTH.out i k hli hlk)
              go_upto_region 9 with fail
              go_cut [75] (fun s wx => s = .bool false ∧ Hid (Up w wx))
              case first =>
                have c0 := upCell i0'
                have c1 := upCell i1
                have c2 := upCell i2
                have c3 := upCell i3
                have c4 := upCell i4
                have d0 := upCell k0
                have d1 := upCell k1
                have d2 := upCell k2
                have d3 := upCell k3
                have d4 := upCell k4
                clear i0' i1 i2 i3 i4 k0 k1 k2 k3 k4
                by_cases hik : i = k
                · subst hik
                  have hne : ((i : Int) != (i : Int)) = false := by simp
                  have hah : aheadB (l.getD i op0) (l.getD i op0) = false := by
                    cases h : aheadB (l.getD i op0) (l.getD i op0)
                    · rfl
                    · rw [HN1.out h] at h; cases h
                  rw [hah] at HIK
                  clear hah HKI HBO HN1 HT1 HB1 d0 d1 d2 d3 d4
                  generalize l.getD i op0 = p at *
                  obtain ⟨PF, PT, PW, PV, PH⟩ := p
                  unfold oagg at HIK
                  dsimp only at HIK c0 c1 c2 c3 c4
                  refine wp_region_up (w0 := wr) (by kernel_rfl) (by kernel_rfl) (Up.refl _) ?_
                  repeat (go_big_quiet_step ((go_at_call 10; with_reducible exact callAbove HIK.out _)))
                  refine wpQuiet_nil ?_
                  rintro _ ⟨⟨wz, huz⟩, rfl⟩
                  go_wp2_with fail
                  go_meet
                  exact ⟨rfl, Lib.hid (HVK.out.trans huz)⟩
                · have hne : ((i : Int) != (k : Int)) = true := by rw [bne_iff_ne]; omega
                  have HB2 := Lib.hid (HB1.out hik)
                  clear HB1 HT1
                  generalize aheadB (l.getD i op0) (l.getD k op0) = ah at *
                  generalize aheadB (l.getD k op0) (l.getD i op0) = ha at *
                  generalize bothB (l.getD i op0) (l.getD k op0) = bo at *
                  generalize l.getD i op0 = p at *
                  generalize l.getD k op0 = q at *
                  obtain ⟨PF, PT, PW, PV, PH⟩ := p
                  obtain ⟨QF, QT, QW, QV, QH⟩ := q
                  unfold oagg at HIK HKI HBO
                  dsimp only at HIK HKI HBO c0 c1 c2 c3 c4 d0 d1 d2 d3 d4 HB2
                  have hxx : ∃ b, (PH == QH) = b ∧ (b = true → bo = false) := ⟨_, rfl, fun h => HB2.out (beq_iff_eq.1 h)⟩
                  obtain ⟨b, hte, hb⟩ := hxx
                  have HBB := Lib.hid hb
                  clear HB2 hb
                  have hcs : ∃ h2 : Bool, h2 = ha ∧ (ah = true → h2 = false) := ⟨ha, rfl, HN1.out⟩
                  obtain ⟨h2, rfl, hn⟩ := hcs
                  have HNX := Lib.hid hn
                  clear hn HN1
                  cases b
                  · clear HBB
                    cases ah
                    · refine wp_region_up (w0 := wr) (by kernel_rfl) (by kernel_rfl) (Up.refl _) ?_
                      repeat (go_big_quiet_step ((go_at_call 10; with_reducible exact callAbove HIK.out _)))
                      refine wpQuiet_nil ?_
                      rintro _ ⟨⟨wz, huz⟩, rfl⟩
                      go_wp2_with fail
                      go_meet
                      exact ⟨rfl, Lib.hid (HVK.out.trans huz)⟩
                    · have hha : h2 = false := HNX.out rfl
                      subst hha
                      refine wp_region_up (w0 := wr) (by kernel_rfl) (by kernel_rfl) (Up.refl _) ?_
                      repeat (go_big_quiet_step ((first | (go_at_call 10; with_reducible exact callAbove HIK.out _) | (go_at_call 10; with_reducible exact callAbove HKI.out _))))
                      refine wpQuiet_nil ?_
                      rintro _ ⟨⟨wz, huz⟩, rfl⟩
                      go_wp2_with fail
                      go_meet
                      exact ⟨rfl, Lib.hid (HVK.out.trans huz)⟩
                  · have hbo : bo = false := HBB.out rfl
                    subst hbo
                    clear HBB
                    cases ah
                    · refine wp_region_up (w0 := wr) (by kernel_rfl) (by kernel_rfl) (Up.refl _) ?_
                      repeat (go_big_quiet_step ((first | (go_at_call 12; with_reducible exact callAbove HBO.out _) | (go_at_call 10; with_reducible exact callAbove HIK.out _))))
                      refine wpQuiet_nil ?_
                      rintro _ ⟨⟨wz, huz⟩, rfl⟩
                      go_wp2_with fail
                      go_meet
                      exact ⟨rfl, Lib.hid (HVK.out.trans huz)⟩
                    · have hha : h2 = false := HNX.out rfl
                      subst hha
                      refine wp_region_up (w0 := wr) (by kernel_rfl) (by kernel_rfl) (Up.refl _) ?_
                      repeat (go_big_quiet_step ((first | (go_at_call 12; with_reducible exact callAbove HBO.out _) | (go_at_call 10; with_reducible exact callAbove HIK.out _) | (go_at_call 10; with_reducible exact callAbove HKI.out _))))
                      refine wpQuiet_nil ?_
                      rintro _ ⟨⟨wz, huz⟩, rfl⟩
                      go_wp2_with fail
                      go_meet
                      exact ⟨rfl, Lib.hid (HVK.out.trans huz)⟩
              case rest =>
                obtain ⟨rfl, HVC⟩ := hcut
                clear i0' i1 i2 i3 i4 k0 k1 k2 k3 k4 HKI HBO HN1 HB1
                go_wp2_with fail
                go_loopw [5] (fun x wr => ∃ n : Nat, n ≤ l.length ∧ x = .int .i64 n ∧ Hid (Up w wr)) (fun x _ => l.length - (intOf x).toNat)
                case atStart => exact ⟨0, by omega, rfl, HVC⟩
                case round =>
                  obtain ⟨n, hn, rfl, HVN⟩ := hrel
                  by_cases hln : n < l.length
                  · have hni : (n : Int) < l.length := by omega
                    have hn0 : (0 : Int) ≤ n := by omega
                    obtain ⟨b1, o1, e1, i0', i1, i2, i3, i4⟩ := HR.out.up HVN.out i HI.out
                    cases e1
                    obtain ⟨b2, o2, e2, k0, k1, k2, k3, k4⟩ := HR.out.up HVN.out k HK.out
                    cases e2
                    obtain ⟨b3, o3, e3, n0, n1, n2, n3, n4⟩ := HR.out.up HVN.out n hln
                    cases e3
                    have HKN := Lib.hid (fun W => ahead_any (l.getD k op0) (l.getD n op0) W)
                    have HIN := Lib.hid (fun W => ahead_any (l.getD i op0) (l.getD n op0) W)
                    have HTX := Lib.hid (HT1.out n HK.out)
                    have c0 := upCell i0'
                    have c1 := upCell i1
                    have c2 := upCell i2
                    have c3 := upCell i3
                    have c4 := upCell i4
                    have d0 := upCell k0
                    have d1 := upCell k1
                    have d2 := upCell k2
                    have d3 := upCell k3
                    have d4 := upCell k4
                    have f0 := upCell n0
                    have f1 := upCell n1
                    have f2 := upCell n2
                    have f3 := upCell n3
                    have f4 := upCell n4
                    clear i0' i1 i2 i3 i4 k0 k1 k2 k3 k4 n0 n1 n2 n3 n4 HT1
                    generalize aheadB (l.getD i op0) (l.getD k op0) = ah at *
                    generalize aheadB (l.getD k op0) (l.getD n op0) = bh at *
                    generalize aheadB (l.getD i op0) (l.getD n op0) = ch at *
                    generalize l.getD i op0 = p at *
                    generalize l.getD k op0 = q at *
                    generalize l.getD n op0 = r at *
                    obtain ⟨PF, PT, PW, PV, PH⟩ := p
                    obtain ⟨QF, QT, QW, QV, QH⟩ := q
                    obtain ⟨RF, RT, RW, RV, RH⟩ := r
                    unfold oagg at HIK HKN HIN
                    dsimp only at HIK HKN HIN c0 c1 c2 c3 c4 d0 d1 d2 d3 d4 f0 f1 f2 f3 f4
                    go_upto_region 14 with fail
                    go_cut [113] (fun s wx => s = .bool false ∧ Hid (Up w wx))
                    case first =>
                      cases ah
                      · refine wp_region_up (w0 := wr) (by kernel_rfl) (by kernel_rfl) (Up.refl _) ?_
                        repeat (go_big_quiet_step ((go_at_call 10; with_reducible exact callAbove HIK.out _)))
                        refine wpQuiet_nil ?_
                        rintro _ ⟨⟨wz, huz⟩, rfl⟩
                        go_wp2_with fail
                        go_meet
                        exact ⟨rfl, Lib.hid (HVN.out.trans huz)⟩
                      · cases bh
                        · refine wp_region_up (w0 := wr) (by kernel_rfl) (by kernel_rfl) (Up.refl _) ?_
                          repeat (go_big_quiet_step ((first | (go_at_call 10; with_reducible exact callAbove HIK.out _) | (go_at_call 10; with_reducible exact callAbove HKN.out _))))
                          refine wpQuiet_nil ?_
                          rintro _ ⟨⟨wz, huz⟩, rfl⟩
                          go_wp2_with fail
                          go_meet
                          exact ⟨rfl, Lib.hid (HVN.out.trans huz)⟩
                        · have hch : ch = true := HTX.out rfl rfl
                          subst hch
                          refine wp_region_up (w0 := wr) (by kernel_rfl) (by kernel_rfl) (Up.refl _) ?_
                          repeat (go_big_quiet_step ((first | (go_at_call 10; with_reducible exact callAbove HIK.out _) | (go_at_call 10; with_reducible exact callAbove HKN.out _) | (go_at_call 10; with_reducible exact callAbove HIN.out _))))
                          refine wpQuiet_nil ?_
                          rintro _ ⟨⟨wz, huz⟩, rfl⟩
                          go_wp2_with fail
                          go_meet
                          exact ⟨rfl, Lib.hid (HVN.out.trans huz)⟩
                    case rest =>
                      obtain ⟨rfl, HVM⟩ := hcut
                      go_wp2_with fail
                      go_roundw
                      case rel => exact ⟨n + 1, by omega, by go_num, HVM⟩
                      case measure => simp [intOf]; omega
                  · obtain rfl : n = l.length := by omega
                    clear hln
                    go_wp2_with fail
                    go_roundw
                    case rel => exact ⟨k + 1, by omega, by go_num, HVN⟩
                    case measure => simp [intOf]; omega
            · obtain rfl : k = l.length := by omega
              clear hlk
              go_wp2_with fail
              go_roundw
              case rel => exact ⟨i + 1, by omega, by go_num, HVK⟩
              case measure => simp [intOf]; omega
        · obtain rfl : i = l.length := by omega
          clear hli
          go_wp2_with fail
          refine (HAL.out _).mono ?_
          rintro e w2 ⟨rfl, hu2⟩
          have HU2 := Lib.hid (HVI.out.trans hu2)
          clear hu2
          go_wp2_with fail
          go_ret
          exact ⟨rfl, HU2.out⟩
  · have hl25 : (25 : Int) < l.length := by omega
    have hlm : (l.length : Int) ≤ 9223372036854775807 := by omega
    clear hr h25
    generalize l.length = n at *
    go_enter Try.func4, Try.ntmps4
    go_wp2_with fail
    refine (HAL.out _).mono ?_
    rintro e w2 ⟨rfl, hu⟩
    have HU := Lib.hid hu
    clear hu
    go_wp2_with fail
    go_ret
    exact ⟨rfl, HU.out⟩

end Go.Proofs.Ytpefcbmmbpcalaa
