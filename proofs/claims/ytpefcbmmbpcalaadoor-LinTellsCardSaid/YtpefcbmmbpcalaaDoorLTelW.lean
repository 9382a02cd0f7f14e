/-
  LinTells' walk.
-/
import Derived.Test.YtpefcbmmbpcalaaDoorAlive21
import Derived.Test.YtpefcbmmbpcalaaDoorHasT
import Derived.Test.YtpefcbmmbpcalaaDoorRFin
set_option linter.unusedVariables false
set_option linter.unusedSimpArgs false
namespace Go.Proofs.YtpefcbmmbpcalaaDoor
open Go.RowKit

/-- An order that respects a history is not longer than it. -/
theorem resp_few {l : List OpD} {o : List Int} (h : respP l o = true) : o.length ≤ l.length := by
  have hin : ∀ k, k < o.length → 0 ≤ o.getD k 0 ∧ o.getD k 0 < l.length := fun k hk => respP_in h hk
  have hne : ∀ i q, i < o.length → q < i → o.getD q 0 ≠ o.getD i 0 := fun i q hi hq e => by
    unfold respP at h
    rw [Bool.and_eq_true, Bool.and_eq_true] at h
    have h2 := all_at (all_at h.2.1 hi) hq
    unfold pairB at h2
    rw [Bool.and_eq_true, e] at h2
    simp at h2
  have hnd : o.Nodup := by
    rw [List.nodup_iff_pairwise_ne, List.pairwise_iff_getElem]
    intro i j hi hj hij e
    refine hne j i hj hij ?_
    rw [List.getD_eq_getElem?_getD, List.getD_eq_getElem?_getD, List.getElem?_eq_getElem hi, List.getElem?_eq_getElem hj, e]
  have := nodup_le o (iL (List.range l.length)) hnd (fun x hx => by
    obtain ⟨k, hk, rfl⟩ := List.getElem_of_mem hx
    have h1 := hin k hk
    rw [List.getD_eq_getElem?_getD, List.getElem?_eq_getElem hk] at h1
    have h1' : 0 ≤ o[k] ∧ o[k] < l.length := h1
    unfold iL
    exact List.mem_map.2 ⟨o[k].toNat, List.mem_range.2 (by omega), by omega⟩)
  rw [iL_len, List.length_range] at this
  exact this
theorem capS_few : ∀ n, n < 12 → capS n ≤ 1000000000 := by decide

set_option maxRecDepth 10000 in
set_option maxHeartbeats 4000000 in
theorem linTells_any (l : List OpD) (A : Option Addr) (c : Nat) (first : Int) (o : List Int) (B : Option Addr) (cb : Nat) (w : World) (hl : l.length ≤ 9223372036854775807) (ho : o.length ≤ cb) (hcb : cb ≤ 9223372036854775807) (hr : OpRow w A l) (hq : Row w B o.length (IVal o)) (hB : B = none → cb = 0) (hv : ValsOk l first) (hT0 : TabT w) :
    Calls Tryd.prog 5 #[.slice A l.length c, .int .i64 first, .slice B o.length cb] w fun e w' => e = .returned (.bool true) ∧ Up w w' := by
  have HAL := Lib.hid (fun W (u : Up w W) => alive21_any W (hT0.up u))
  by_cases h11 : l.length ≤ 11
  · have hl11 : (l.length : Int) ≤ 11 := by omega
    by_cases h30 : o.length ≤ 30
    · have ho30 : (o.length : Int) ≤ 30 := by omega
      have HH := Lib.hid (lhas_any l A c first w hl hT0 hr hv)
      have HF := Lib.hid (fun W (u : Up w W) => lfind_any l A c first W hl (hT0.up u) (hr.up u) hv)
      have HFI := Lib.hid (fun W (u : Up w W) => rfine_any l A c W hl (hr.up u))
      have HRI := Lib.hid (fun W (u : Up w W) => right_any l o A B c cb first W hl ho hcb (hr.up u) (hq.up u) hB)
      cases hf : fineP l
      · have hc1 : checkP l = 1 := by unfold checkP; rw [hf]; rfl
        rw [hf] at HFI
        rw [hc1] at HH HF HRI
        have HRI' : Hid (∀ W, Up w W → Calls Tryd.prog 22 #[.slice A l.length c, .int .i64 first, .slice B o.length cb] W fun e w' => e = .returned (.bool false) ∧ Up W w') := Lib.hid HRI.out
        clear hr hq hv hT0 hf hc1 HRI h11 h30
        go_enter Tryd.func5, Tryd.ntmps5
        go_wp2_with fail
        refine HH.out.mono ?_
        rintro e w1 ⟨ok, rfl, hk, _, hu1⟩
        obtain rfl : ok = false := hk (by first | decide | trivial)
        have HU1 := Lib.hid hu1
        clear hk hu1 HH
        go_wp2_with fail
        refine (HF.out _ HU1.out).mono ?_
        rintro e w2 ⟨vf, F, er, rfl, ho2, hu2, hk, _⟩
        obtain ⟨rfl, rfl⟩ := hk (by first | decide | trivial)
        obtain ⟨A2, c2, rfl, _⟩ := n_row ho2
        rw [show (iL []).length = 0 from rfl]
        have HU2 := Lib.hid (HU1.out.trans hu2)
        clear hk hu2 ho2 HF
        go_wp2_with fail
        refine (HFI.out _ HU2.out).mono ?_
        rintro e w3 ⟨rfl, hu3⟩
        have HU3 := Lib.hid (HU2.out.trans hu3)
        clear hu3 HFI
        go_wp2_with fail
        refine (HRI'.out _ HU3.out).mono ?_
        rintro e w4 ⟨rfl, hu4⟩
        have HU4 := Lib.hid (HU3.out.trans hu4)
        clear hu4 HRI'
        go_wp2_with fail
        refine (HAL.out _ HU4.out).mono ?_
        rintro e w5 ⟨rfl, hu5⟩
        have HU5 := Lib.hid (HU4.out.trans hu5)
        clear hu5
        go_wp2_with fail
        go_ret
        exact ⟨rfl, HU5.out⟩
      · have hc0 : checkP l = 0 := by unfold checkP; rw [hf, if_pos rfl, if_neg (by omega)]
        have HR := Lib.hid hr
        have HQ := Lib.hid hq
        have HL0 := Lib.hid hl
        have HL11 := Lib.hid h11
        have HR21 := Lib.hid (fun W (u : Up w W) => rhas21_any l A c first W (by omega) (hr.up u) (by rw [und_zero]; exact capS_few _ (by omega)))
        have HRR := Lib.hid (fun W (u : Up w W) => rright_any l o A B c cb first W (by omega) (by omega) (hr.up u) (hq.up u))
        have HC0 := Lib.hid hc0
        rw [hf] at HFI
        rw [hc0] at HH HF HRI
        have HRI' : Hid (∀ W, Up w W → Calls Tryd.prog 22 #[.slice A l.length c, .int .i64 first, .slice B o.length cb] W fun e w' => e = .returned (.bool (rightP l first o)) ∧ Up W w') := Lib.hid HRI.out
        clear hr hq hv hT0 hf hc0 HRI h11 h30 hl
        generalize rightP l first o = rp at *
        by_cases hC : Comp l 0 first
        · have HC := Lib.hid hC
          clear hC
          go_enter Tryd.func5, Tryd.ntmps5
          go_wp2_with fail
          refine HH.out.mono ?_
          rintro e w1 ⟨ok, rfl, _, hk, hu1⟩
          obtain rfl : ok = true := (hk (by first | rfl | trivial)).2 HC.out
          have HU1 := Lib.hid hu1
          clear hk hu1 HH
          go_wp2_with fail
          refine (HF.out _ HU1.out).mono ?_
          rintro e w2 ⟨vf, F, er, rfl, ho2, hu2, _, hk⟩
          obtain ⟨rfl, hri⟩ := (hk (by first | rfl | trivial)).1 HC.out
          obtain ⟨A2, c2, rfl, hr2, hc2, hm2, hn2⟩ := n_row2 ho2
          have HU2 := Lib.hid (HU1.out.trans hu2)
          have hfl : (iL F).length ≤ 1000000 := by
            have h1 : respP l (iL F) = true := by unfold rightP at hri; rw [Bool.and_eq_true] at hri; exact hri.1
            exact Nat.le_trans (resp_few h1) (by have := HL11.out; omega)
          have HL1 := Lib.hid (fun W (u : Up w2 W) => right_any l (iL F) A A2 c c2 first W HL0.out hc2 hm2 (HR.out.up (HU2.out.trans u)) (hr2.up u) hn2)
          have HL2 := Lib.hid (fun W (u : Up w2 W) => rright_any l (iL F) A A2 c c2 first W (by have := HL11.out; omega) hfl (HR.out.up (HU2.out.trans u)) (hr2.up u))
          rw [hri, HC0.out] at HL1
          rw [hri] at HL2
          have HL1' : Hid (∀ W, Up w2 W → Calls Tryd.prog 22 #[.slice A l.length c, .int .i64 first, .slice A2 (iL F).length c2] W fun e w' => e = .returned (.bool true) ∧ Up W w') := Lib.hid HL1.out
          have HFL2 : Hid (((iL F).length : Int) ≤ 1000000) := Lib.hid (by omega)
          clear hk hu2 ho2 HF hri hr2 hc2 hm2 hn2 hfl HL1
          generalize iL F = G at *
          go_wp2_with fail
          refine (HFI.out _ HU2.out).mono ?_
          rintro e w3 ⟨rfl, hu3⟩
          have HS3 := Lib.hid hu3
          have HU3 := Lib.hid (HU2.out.trans hu3)
          clear hu3 HFI
          go_wp2_with fail
          refine (HR21.out _ HU3.out).mono ?_
          rintro e w4 ⟨ok, rfl, hk, hu4⟩
          obtain rfl : ok = true := hk.2 HC.out
          have HS4 := Lib.hid (HS3.out.trans hu4)
          have HU4 := Lib.hid (HU3.out.trans hu4)
          clear hu4 hk HR21
          go_wp2_with fail
          refine (HRI'.out _ HU4.out).mono ?_
          rintro e w5 ⟨rfl, hu5⟩
          have HS5 := Lib.hid (HS4.out.trans hu5)
          have HU5 := Lib.hid (HU4.out.trans hu5)
          clear hu5 HRI'
          go_wp2_with fail
          refine (HRR.out _ HU5.out).mono ?_
          rintro e w6 ⟨rfl, hu6⟩
          have HS6 := Lib.hid (HS5.out.trans hu6)
          have HU6 := Lib.hid (HU5.out.trans hu6)
          clear hu6 HRR
          go_wp2_with fail
          refine (HL2.out _ HS6.out).mono ?_
          rintro e w7 ⟨rfl, hu7⟩
          have HS7 := Lib.hid (HS6.out.trans hu7)
          have HU7 := Lib.hid (HU6.out.trans hu7)
          clear hu7 HL2
          go_wp2_with fail
          refine (HL1'.out _ HS7.out).mono ?_
          rintro e w8 ⟨rfl, hu8⟩
          have HU8 := Lib.hid (HU7.out.trans hu8)
          clear hu8 HL1'
          go_wp2_with fail
          refine (HAL.out _ HU8.out).mono ?_
          rintro e w9 ⟨rfl, hu9⟩
          have HU9 := Lib.hid (HU8.out.trans hu9)
          clear hu9
          go_wp2_with fail
          go_ret
          exact ⟨rfl, HU9.out⟩
        · have HC := Lib.hid hC
          clear hC
          go_enter Tryd.func5, Tryd.ntmps5
          go_wp2_with fail
          refine HH.out.mono ?_
          rintro e w1 ⟨ok, rfl, _, hk, hu1⟩
          obtain rfl : ok = false := by
            cases ok
            · rfl
            · exact absurd ((hk (by first | rfl | trivial)).1 (by first | rfl | trivial)) HC.out
          have HU1 := Lib.hid hu1
          clear hk hu1 HH
          go_wp2_with fail
          refine (HF.out _ HU1.out).mono ?_
          rintro e w2 ⟨vf, F, er, rfl, ho2, hu2, _, hk⟩
          obtain ⟨rfl, rfl⟩ := (hk (by first | rfl | trivial)).2 HC.out
          obtain ⟨A2, c2, rfl, _⟩ := n_row ho2
          rw [show (iL []).length = 0 from rfl]
          have HU2 := Lib.hid (HU1.out.trans hu2)
          clear hk hu2 ho2 HF
          go_wp2_with fail
          refine (HFI.out _ HU2.out).mono ?_
          rintro e w3 ⟨rfl, hu3⟩
          have HU3 := Lib.hid (HU2.out.trans hu3)
          clear hu3 HFI
          go_wp2_with fail
          refine (HR21.out _ HU3.out).mono ?_
          rintro e w4 ⟨ok, rfl, hk, hu4⟩
          obtain rfl : ok = false := by
            cases ok
            · rfl
            · exact absurd (hk.1 rfl) HC.out
          have HU4 := Lib.hid (HU3.out.trans hu4)
          clear hu4 hk HR21
          go_wp2_with fail
          refine (HRI'.out _ HU4.out).mono ?_
          rintro e w5 ⟨rfl, hu5⟩
          have HU5 := Lib.hid (HU4.out.trans hu5)
          clear hu5 HRI'
          go_wp2_with fail
          refine (HRR.out _ HU5.out).mono ?_
          rintro e w6 ⟨rfl, hu6⟩
          have HU6 := Lib.hid (HU5.out.trans hu6)
          clear hu6 HRR
          go_wp2_with fail
          refine (HAL.out _ HU6.out).mono ?_
          rintro e w9 ⟨rfl, hu9⟩
          have HU9 := Lib.hid (HU6.out.trans hu9)
          clear hu9
          go_wp2_with fail
          go_ret
          exact ⟨rfl, HU9.out⟩
    · have ho30 : (30 : Int) < (o.length : Int) := by omega
      clear hr hq h11 h30
      go_enter Tryd.func5, Tryd.ntmps5
      go_wp2_with fail
      refine (HAL.out _ (Up.refl _)).mono ?_
      rintro e w2 ⟨rfl, hu2⟩
      have HU2 := Lib.hid hu2
      clear hu2
      go_wp2_with fail
      go_ret
      exact ⟨rfl, HU2.out⟩
  · have hl11 : (11 : Int) < (l.length : Int) := by omega
    clear hr hq h11
    go_enter Tryd.func5, Tryd.ntmps5
    go_wp2_with fail
    refine (HAL.out _ (Up.refl _)).mono ?_
    rintro e w2 ⟨rfl, hu2⟩
    have HU2 := Lib.hid hu2
    clear hu2
    go_wp2_with fail
    go_ret
    exact ⟨rfl, HU2.out⟩

end Go.Proofs.YtpefcbmmbpcalaaDoor
