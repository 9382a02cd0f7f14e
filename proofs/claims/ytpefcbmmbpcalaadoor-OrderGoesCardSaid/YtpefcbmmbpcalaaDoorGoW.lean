/-
  OrderGoes' walk.
-/
import Derived.Test.YtpefcbmmbpcalaaDoorGoP
import Derived.Test.YtpefcbmmbpcalaaDoorRFin
set_option linter.unusedVariables false
set_option linter.unusedSimpArgs false
namespace Go.Proofs.YtpefcbmmbpcalaaDoor
open Go.RowKit

set_option maxRecDepth 10000 in
set_option maxHeartbeats 4000000 in
theorem orderGoes_any (l : List OpD) (A : Option Addr) (c : Nat) (ps : List UInt8) (B : Option Addr) (cb : Nat) (w : World) (hl : l.length ≤ 9223372036854775807) (hps : ps.length ≤ cb) (hcb : cb ≤ 9223372036854775807) (hr : OpRow w A l) (hq : Row w B ps.length (BVal ps)) (hT0 : TabT w) :
    Calls Tryd.prog 4 #[.slice A l.length c, .slice B ps.length cb] w fun e w' => e = .returned (.bool true) ∧ Up w w' := by
  have HAL := Lib.hid (fun W (u : Up w W) => alive20_any W (hT0.up u))
  by_cases h24 : l.length ≤ 24
  · have hl24 : (l.length : Int) ≤ 24 := by omega
    have HFI := Lib.hid (rfine_any l A c w hl hr)
    cases hf : fineP l
    · rw [hf] at HFI
      clear hr hf h24
      go_enter Tryd.func4, Tryd.ntmps4
      go_wp2_with fail
      refine HFI.out.mono ?_
      rintro e w1 ⟨rfl, hu1⟩
      have HU1 := Lib.hid hu1
      clear hu1
      go_wp2_with fail
      refine (HAL.out _ HU1.out).mono ?_
      rintro e w2 ⟨rfl, hu2⟩
      have HU2 := Lib.hid (HU1.out.trans hu2)
      clear hu2
      go_wp2_with fail
      go_ret
      exact ⟨rfl, HU2.out⟩
    · rw [hf] at HFI
      have HR := Lib.hid hr
      have HQ := Lib.hid hq
      have HT := Lib.hid hT0
      have HF := Lib.hid hf
      have HW0 := Lib.hid (Went.start l)
      obtain ⟨i0, hi, hz0, hz1, hz2⟩ := iparts infoI
      have HI := Lib.hid hi
      have HZ0 := Lib.hid hz0
      have HZ1 := Lib.hid hz1
      have HZ2 := Lib.hid hz2
      have HON := Lib.hid (fun d W hd u t => onext_any l A c d W hd (by omega) hf (HR.out.up u) t)
      have HOR := Lib.hid (fun o B' c' W u h1 h2 h3 h4 h5 => respects_any l o A B' c c' W (by omega) h1 h2 h3 (HR.out.up u) h4 h5)
      have HWI := Lib.hid (fun s t W hs (ht : t < l.length) => rwith_any s t W hs (by omega))
      have HWP := Lib.hid (fun o d i (h : Went l o d) (hi : i ∈ nextL l d) => h.pick (by omega) hi)
      have HWM := Lib.hid (fun o d (h : Went l o d) (hlt : o.length < l.length) => h.more hf hlt)
      have hpi : (ps.length : Int) ≤ 9223372036854775807 := by omega
      clear hr hq hT0 hf hcb hps hi hz0 hz1 hz2 h24
      go_enter Tryd.func4, Tryd.ntmps4
      go_wp2_with fail
      refine HFI.out.mono ?_
      rintro e w1 ⟨rfl, hu1⟩
      have HTW := Lib.hid ((TwoR.start w).more hu1)
      clear hu1 HFI
      go_wp2_with fail
      go_loopw [5, 6, 7, 8] (fun vo vf s x wr => ∃ (i : Nat) (o : List Nat) (d : Nat), i ≤ l.length ∧ x = .int .i64 i ∧ s = .int .u64 d ∧ Hid (o.length = i) ∧ Hid (Went l o d) ∧ Hid (TwoR w wr vo vf o (List.range i))) (fun _ _ _ x _ => l.length - (intOf x).toNat)
      case atStart => exact ⟨0, [], 0, by omega, rfl, rfl, Lib.hid rfl, HW0, HTW⟩
      case round =>
        obtain ⟨i, o, d, hk, rfl, rfl, HOL, HWE, HTR⟩ := hrel
        by_cases hlt : i < l.length
        · have hki : (i : Int) < l.length := by omega
          have hk0 : (0 : Int) ≤ i := by omega
          have HLT := Lib.hid hlt
          have HF1 := Lib.hid HTR.out.b
          have HSZ := Lib.hid HTR.out.up.size
          have HLB : Hid (((List.range i).length + 1) * 8 ≤ 140737488355328) := Lib.hid (by rw [List.length_range]; omega)
          have HOB : Hid ((o.length + 1) * 8 ≤ 140737488355328) := Lib.hid (by rw [HOL.out]; omega)
          have HMO := Lib.hid (HWM.out o d HWE.out (by rw [HOL.out]; exact hlt))
          have hmo : 0 < (nextL l d).length := HMO.out
          have hnl : (nextL l d).length ≤ l.length := nextK_len l d l.length
          have hn0 : (0 : Int) < ((iL (nextL l d)).length : Int) := by rw [iL_len]; omega
          have hnb : (((iL (nextL l d)).length : Int) == 0) = false := by rw [beq_eq_false_iff_ne]; omega
          have hnm : ((iL (nextL l d)).length : Int) ≤ 24 := by rw [iL_len]; omega
          have HNI : Hid ((iL (nextL l d)).length = (nextL l d).length) := Lib.hid (iL_len _)
          clear hlt hk
          go_wp2_with (at_builtin; refine wpList_push4 (news := [.int .i64 (i : Int)]) rfl (.tmp 26) (.tmp 28) 24 rfl w.heap.size i0 (.int .i64 0) 1 8 Tryd.underlying24 HI.out HZ0.out HZ1.out HZ2.out rfl (by decide) _ (List.range i).length (ncells (List.range i)) rfl HF1.out rfl rfl (by simp [Value.oneCell']) (by decide) HLB.out HSZ.out ?_; intro vf2 w2 hown2 hg2 hm2)
          have HT2 : Hid (TwoR w w2 _ vf2 o (List.range (i + 1))) := Lib.hid (HTR.out.push (by
            unfold OwnN
            rw [List.range_succ, ncells_append, List.length_append]
            exact hown2) hg2 hm2)
          clear hown2 hg2 hm2
          go_wp2_with fail
          refine (HON.out d w2 HWE.out.lt HT2.out.up (HT.out.up HT2.out.up)).mono ?_
          rintro e w3 ⟨v, rfl, ho3, hu3⟩
          obtain ⟨A3, c3, rfl, _⟩ := n_row ho3
          have HN3 := Lib.hid ho3
          have HT3 := Lib.hid (HT2.out.more hu3)
          have HBF : Hid (w.heap.size ≤ w2.heap.size) := Lib.hid HT2.out.up.size
          have HA2 := Lib.hid HT2.out.a
          clear ho3 hu3 HF1 HSZ HLB
          by_cases hpk : i < ps.length
          · have hpl : (i : Int) < ps.length := by omega
            obtain ⟨bp, op, rfl, y0⟩ := (HQ.out.up HT3.out.up) i hpk
            unfold BVal at y0
            have hp0 : (0 : Int) ≤ ((ps.getD i 0).toNat : Int) := by omega
            have hp1 : ((ps.getD i 0).toNat : Int) ≤ 255 := by have := (ps.getD i 0).toNat_lt; omega
            generalize (ps.getD i 0).toNat = p at *
            obtain ⟨k, hkk⟩ : ∃ k : Nat, k = p % (iL (nextL l d)).length := ⟨_, rfl⟩
            have hkn : k < (nextL l d).length := by rw [hkk, HNI.out]; exact Nat.mod_lt _ hmo
            have hkI : Int.tmod (p : Int) ((iL (nextL l d)).length : Int) = (k : Int) := by rw [hkk]; rfl
            have HKM : Hid ((nextL l d).getD k 0 ∈ nextL l d) := Lib.hid (by rw [List.getD_eq_getElem?_getD, List.getElem?_eq_getElem hkn]; exact List.getElem_mem hkn)
            have HKN := Lib.hid hkn
            have hki2 : (k : Int) < ((iL (nextL l d)).length : Int) := by rw [iL_len]; omega
            have hk02 : (0 : Int) ≤ (k : Int) := by omega
            have HEL := Lib.hid (next_mem HKM.out).1
            obtain ⟨g3, rfl, y3⟩ := n_cell HN3.out HKN.out
            have HO3 := Lib.hid HT3.out.a
            have HSZ3 := Lib.hid HT3.out.up.size
            clear hkk hkn hmo hnl
            generalize hew : (nextL l d).getD k 0 = ew at *
            have HEW := Lib.hid hew
            clear hew
            go_wp2_with (at_builtin; refine wpList_push4 (news := [.int .i64 (ew : Int)]) rfl (.tmp 48) (.tmp 53) 24 rfl w.heap.size i0 (.int .i64 0) 1 8 Tryd.underlying24 HI.out HZ0.out HZ1.out HZ2.out rfl (by decide) _ o.length (ncells o) rfl HO3.out rfl rfl (by simp [Value.oneCell']) (by decide) HOB.out HSZ3.out ?_; intro vo4 w4 hown4 hg4 hm4; have HN4 := Lib.hid (later_kept HN3.out HA2.out hg4); obtain ⟨g4, eg4, y4⟩ := n_cell HN4.out HKN.out; injection eg4 with eg4; injection eg4 with eg4; subst eg4; rw [HEW.out] at y4)
            have HT4 : Hid (TwoR w w4 vo4 vf2 (o ++ [ew]) (List.range (i + 1))) := Lib.hid (TwoR.swap (TwoR.push HT3.out.swap (by
              unfold OwnN
              rw [ncells_append, List.length_append]
              exact hown4) hg4 hm4))
            clear hown4 hg4 hm4
            go_wp2_with fail
            refine (HWI.out d ew w4 HWE.out.lt HEL.out).mono ?_
            rintro e w5 ⟨rfl, rfl⟩
            go_wp2_with fail
            go_roundw
            case rel => exact ⟨i + 1, o ++ [ew], withN d ew, HLT.out, by go_num, rfl, Lib.hid (by rw [List.length_append, HOL.out]; rfl), Lib.hid (HWP.out o d ew HWE.out HKM.out), HT4⟩
            case measure => simp [intOf]; omega
          · have hpl : ((i : Int) < ps.length) = False := by simp; omega
            have hpd : decide ((i : Int) < (ps.length : Int)) = false := decide_eq_false (by omega)
            obtain ⟨k, hkk⟩ : ∃ k : Nat, k = 0 := ⟨_, rfl⟩
            have hkn : k < (nextL l d).length := by omega
            have hkI : (0 : Int) = (k : Int) := by omega
            have HKM : Hid ((nextL l d).getD k 0 ∈ nextL l d) := Lib.hid (by rw [List.getD_eq_getElem?_getD, List.getElem?_eq_getElem hkn]; exact List.getElem_mem hkn)
            have HKN := Lib.hid hkn
            have hki2 : (k : Int) < ((iL (nextL l d)).length : Int) := by rw [iL_len]; omega
            have hk02 : (0 : Int) ≤ (k : Int) := by omega
            have HEL := Lib.hid (next_mem HKM.out).1
            obtain ⟨g3, rfl, y3⟩ := n_cell HN3.out HKN.out
            have HO3 := Lib.hid HT3.out.a
            have HSZ3 := Lib.hid HT3.out.up.size
            clear hkk hkn hmo hnl
            generalize hew : (nextL l d).getD k 0 = ew at *
            have HEW := Lib.hid hew
            clear hew
            go_wp2_with (at_builtin; refine wpList_push4 (news := [.int .i64 (ew : Int)]) rfl (.tmp 48) (.tmp 53) 24 rfl w.heap.size i0 (.int .i64 0) 1 8 Tryd.underlying24 HI.out HZ0.out HZ1.out HZ2.out rfl (by decide) _ o.length (ncells o) rfl HO3.out rfl rfl (by simp [Value.oneCell']) (by decide) HOB.out HSZ3.out ?_; intro vo4 w4 hown4 hg4 hm4; have HN4 := Lib.hid (later_kept HN3.out HA2.out hg4); obtain ⟨g4, eg4, y4⟩ := n_cell HN4.out HKN.out; injection eg4 with eg4; injection eg4 with eg4; subst eg4; rw [HEW.out] at y4)
            have HT4 : Hid (TwoR w w4 vo4 vf2 (o ++ [ew]) (List.range (i + 1))) := Lib.hid (TwoR.swap (TwoR.push HT3.out.swap (by
              unfold OwnN
              rw [ncells_append, List.length_append]
              exact hown4) hg4 hm4))
            clear hown4 hg4 hm4
            go_wp2_with fail
            refine (HWI.out d ew w4 HWE.out.lt HEL.out).mono ?_
            rintro e w5 ⟨rfl, rfl⟩
            go_wp2_with fail
            go_roundw
            case rel => exact ⟨i + 1, o ++ [ew], withN d ew, HLT.out, by go_num, rfl, Lib.hid (by rw [List.length_append, HOL.out]; rfl), Lib.hid (HWP.out o d ew HWE.out HKM.out), HT4⟩
            case measure => simp [intOf]; omega
        · obtain rfl : i = l.length := by omega
          have HRO := Lib.hid (HWE.out.resp HOL.out)
          have HRF := Lib.hid (first_resp HF.out)
          have HNE := Lib.hid (HWE.out.fin HOL.out)
          have HD := Lib.hid HWE.out.lt
          have HU0 := Lib.hid HTR.out.up
          obtain ⟨Ao, co, rfl, hro, h1, h2, h3⟩ := n_row2 HTR.out.a
          obtain ⟨Af, cf, rfl, hrf, h4, h5, h6⟩ := n_row2 HTR.out.b
          have HC1 := Lib.hid (fun W (u : Up wr W) => HOR.out (iL o) Ao co W (HU0.out.trans u) (by rw [iL_len, HOL.out]; omega) h1 h2 (hro.up u) h3)
          have HC2 := Lib.hid (fun W (u : Up wr W) => HOR.out (iL (List.range l.length)) Af cf W (HU0.out.trans u) (by rw [iL_len, List.length_range]; omega) h4 h5 (hrf.up u) h6)
          rw [HRO.out] at HC1
          rw [HRF.out] at HC2
          clear hlt hk hro h1 h2 h3 hrf h4 h5 h6 HRO HRF
          go_wp2_with fail
          refine (HC1.out _ (Up.refl _)).mono ?_
          rintro e w3 ⟨rfl, hu3⟩
          have HU3 := Lib.hid hu3
          clear hu3
          go_wp2_with fail
          refine (HC2.out _ HU3.out).mono ?_
          rintro e w4 ⟨rfl, hu4⟩
          have HU4 := Lib.hid (HU0.out.trans (HU3.out.trans hu4))
          clear hu4
          go_wp2_with fail
          refine (HON.out d _ HD.out HU4.out (HT.out.up HU4.out)).mono ?_
          rintro e w5 ⟨v, rfl, ho5, hu5⟩
          rw [HNE.out] at ho5
          obtain ⟨A5, c5, rfl, _⟩ := n_row ho5
          rw [show (iL []).length = 0 from rfl]
          have HU5 := Lib.hid (HU4.out.trans hu5)
          clear hu5 ho5
          go_wp2_with fail
          refine (HAL.out _ HU5.out).mono ?_
          rintro e w6 ⟨rfl, hu6⟩
          have HU6 := Lib.hid (HU5.out.trans hu6)
          clear hu6
          go_wp2_with fail
          go_ret
          exact ⟨rfl, HU6.out⟩
  · have hl24 : (24 : Int) < (l.length : Int) := by omega
    clear hr hq h24
    go_enter Tryd.func4, Tryd.ntmps4
    go_wp2_with fail
    refine (HAL.out _ (Up.refl _)).mono ?_
    rintro e w2 ⟨rfl, hu2⟩
    have HU2 := Lib.hid hu2
    clear hu2
    go_wp2_with fail
    go_ret
    exact ⟨rfl, HU2.out⟩

end Go.Proofs.YtpefcbmmbpcalaaDoor
