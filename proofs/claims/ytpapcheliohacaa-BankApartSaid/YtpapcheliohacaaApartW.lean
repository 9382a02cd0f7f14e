/-
  BankApart: the walk.
-/
import Derived.Test.YtpapcheliohacaaTwo
import Derived.Test.YtpapcheliohacaaAlive09
import Derived.Test.YtpapcheliohacaaActW
set_option linter.unusedVariables false
set_option linter.unusedSimpArgs false
namespace Go.Proofs.Ytpapcheliohacaa
open Go.RowKit

def apL : List SD := [⟨2, 1, 9⟩, ⟨2, 2, 9⟩]
theorem apFit : Fit apL := ⟨by decide, by decide, by decide⟩

set_option maxRecDepth 10000 in
set_option maxHeartbeats 1000000 in
theorem bankApart_any (l : List A2) (A : Option Addr) (c : Nat) (n : Int) (w : World) (hn : 0 ≤ n ∧ n ≤ 255) (hlm : l.length ≤ 9223372036854775807) (hr : A2Row w A l) (hw : ∀ k, k < l.length → A2W (l.getD k a20)) :
    Calls Try.prog 7 #[.slice A l.length c, .int .u8 n] w fun e w' => e = .returned (.bool true) ∧ Below w.heap.size w w' := by
  have HAL := Lib.hid alive09_any
  by_cases hl : l.length ≤ 60
  rotate_left
  · have z1 : ((60 : Int) < (l.length : Int)) = True := by simp; omega
    clear hr hw
    go_enter Try.func7, Try.ntmps7
    go_wp2_with fail
    refine (HAL.out _).mono ?_
    rintro e w1 ⟨rfl, hU⟩
    go_wp2_with fail
    go_ret
    exact ⟨rfl, hU⟩
  have z1 : ((60 : Int) < (l.length : Int)) = False := by simp; omega
  have HR := Lib.hid hr
  have HWF := Lib.hid hw
  have HL := Lib.hid hl
  have HN0 : Hid (0 ≤ n % 4 ∧ n % 4 < 4) := Lib.hid (by omega)
  have hmod : n.tmod 4 = n % 4 := Int.tmod_eq_emod_of_nonneg hn.1
  have hr0 := strip_row w apL [.int .i64 2, .int .i64 1, .int .i64 9, .int .i64 2, .int .i64 2, .int .i64 9] 63 (fun k hk => by
    match k, hk with
    | 0, _ => exact ⟨rfl, rfl, rfl⟩
    | 1, _ => exact ⟨rfl, rfl, rfl⟩)
  have HU0 := Lib.hid (show Up w (w.alloc (.cells #[.int .i64 2, .int .i64 1, .int .i64 9, .int .i64 2, .int .i64 2, .int .i64 9] 63)) from (Up.refl w).alloc _)
  have HR0 := Lib.hid hr0
  have HNW := Lib.hid (fun W (hr : StripRow W (some ⟨w.heap.size, 0, none⟩) apL) => show Calls Try.prog 19 #[.slice (some ⟨w.heap.size, 0, none⟩) 2 2] W fun e w' => ∃ h X, e = .returned (.tuple #[.pointer (some ⟨h, 0, none⟩), .int .i64 0]) ∧ BankM w' W.heap.size h apL bs0 0 X ∧ Up W w' from
    (newM_any apL _ 2 _ (by decide) hr).mono fun e w' hp => by
      unfold NewM at hp
      rw [if_neg (by decide)] at hp
      exact hp)
  clear hr hw hl hr0
  go_enter Try.func7, Try.ntmps7
  go_wp2_with fail
  generalize hw1 : w.alloc (.cells #[.int .i64 2, .int .i64 1, .int .i64 9, .int .i64 2, .int .i64 2, .int .i64 9] 63) = w1 at *
  refine (HNW.out _ HR0.out).mono ?_
  rintro e w2 ⟨ha, Xa, rfl, hba, hu2⟩
  have HB2 := Lib.hid hba
  have HU2 := Lib.hid hu2
  clear hba hu2 hw1
  go_wp2_with fail
  refine (HNW.out _ (HR0.out.up HU2.out)).mono ?_
  rintro e w3 ⟨hb, Xb, rfl, hbb, hu3⟩
  have HT := Lib.hid (two_new HU0.out HU2.out hu3 HB2.out hbb)
  clear hbb hu3 HB2 HU2 HU0 HR0 HNW
  go_wp2_with fail
  generalize hq : n % 4 = q at *
  have HWQ := Lib.hid (wf_small HN0.out.1 (show q < 32768 by have := HN0.out.2; omega))
  have HIQ := Lib.hid (show 0 ≤ q ∧ q < 4 from HN0.out)
  clear hq hmod hn hlm
  go_loopw [11] (fun x wr => ∃ (j : Nat) (sa sb : BS), j ≤ l.length ∧ x = .int .i64 j ∧ Hid (TwoB w wr ha hb apL sa sb (9 * j) (9 * j) (fun _ => False) ∧ Apart q sa sb)) (fun x _ => l.length - (intOf x).toNat)
  case atStart => exact ⟨0, bs0, bs0, by omega, rfl, Lib.hid ⟨HT.out, apart_start q⟩⟩
  case round =>
    obtain ⟨j, sa, sb, hj, rfl, HV⟩ := hrel
    by_cases hlt : j < l.length
    · have hji : (j : Int) < l.length := by omega
      have hj0 : (0 : Int) ≤ j := by omega
      have HLT := Lib.hid hlt
      have HJ := Lib.hid (show j ≤ 60 by have := HL.out; omega)
      have hj60 : (j : Int) ≤ 60 := by have := HJ.out; omega
      obtain ⟨b, off, rfl, x0, x1, x2, x3, x4, x5⟩ := HR.out.up HV.out.1.1 j hlt
      obtain ⟨g1, g2, g3, g4, g5⟩ := HWF.out j hlt
      generalize l.getD j a20 = a at *
      obtain ⟨ae, at', an, ak, acl, av⟩ := a
      dsimp only at x0 x1 x2 x3 x4 x5 g1 g2 g3 g4 g5
      have HB0 := Lib.hid (heap_alloc_new wr (.cells #[.bool ae, .int .i64 at', .int .i64 an, .int .i64 ak, .int .i64 acl, .int .i64 av] 33))
      have HUA := Lib.hid ((Up.refl wr).alloc (.cells #[.bool ae, .int .i64 at', .int .i64 an, .int .i64 ak, .int .i64 acl, .int .i64 av] 33))
      have HT1 := Lib.hid ((HV.out.1.grow HUA.out).less (Z' := fun k => k = wr.heap.size) (fun k hk => .inr ⟨by omega, by simp; omega⟩))
      have HBU := Lib.hid (busy_two ha hb _ _ apL sa sb at' w _ _ g1 HT1.out)
      have HG1 := Lib.hid (show In64 at' from g1)
      have HAP0 := Lib.hid HV.out.2
      generalize hz : wr.heap.size = z at *
      have y1 := cell_of_row _ _ 1 _ _ _ HB0.out
      simp only [List.getElem?_toArray, List.getElem?_cons_zero, List.getElem?_cons_succ] at y1
      obtain ⟨bq, hbq⟩ : ∃ p, sa.busy at' = p := ⟨_, rfl⟩
      obtain ⟨b1, b2⟩ := bq
      rw [hbq] at HBU
      have HBQ := Lib.hid hbq
      dsimp only at HBU
      clear hlt hj g1 g2 g3 g4 g5 hbq HV
      cases ae
      · go_wp2_with fail
        generalize wr.alloc (.cells #[.bool false, .int .i64 at', .int .i64 an, .int .i64 ak, .int .i64 acl, .int .i64 av] 33) = W1 at *
        refine HBU.out.mono ?_
        rintro e w2 ⟨rfl, hu2⟩
        have HT2 := Lib.hid (HT1.out.up hu2)
        have HB2 := Lib.hid ((hu2.block z (Array.getElem?_eq_some_iff.1 HB0.out).1).trans HB0.out)
        have y0 := cell_of_row _ _ 0 _ _ _ HB2.out
        replace y1 := cell_of_row _ _ 1 _ _ _ HB2.out
        have y3 := cell_of_row _ _ 3 _ _ _ HB2.out
        have y4 := cell_of_row _ _ 4 _ _ _ HB2.out
        have y5 := cell_of_row _ _ 5 _ _ _ HB2.out
        simp only [List.getElem?_toArray, List.getElem?_cons_zero, List.getElem?_cons_succ] at y0 y1 y3 y4 y5
        have HBG := Lib.hid (begin_two ha hb _ _ apL sa sb at' ak acl av w w2 _ apFit HG1.out HT2.out (by have := HJ.out; omega))
        clear hu2 x0 x1 x2 x3 x4 x5
        go_wp2_with fail
        refine HBG.out.mono ?_
        rintro e w3 ⟨rfl, hT3, hk3⟩
        have HB3 := Lib.hid ((hk3 z rfl).trans HB2.out)
        have HT3 := Lib.hid hT3
        replace y0 := cell_of_row _ _ 0 _ _ _ HB3.out
        replace y1 := cell_of_row _ _ 1 _ _ _ HB3.out
        replace y3 := cell_of_row _ _ 3 _ _ _ HB3.out
        replace y4 := cell_of_row _ _ 4 _ _ _ HB3.out
        replace y5 := cell_of_row _ _ 5 _ _ _ HB3.out
        simp only [List.getElem?_toArray, List.getElem?_cons_zero, List.getElem?_cons_succ] at y0 y1 y3 y4 y5
        have HK1 := Lib.hid (fun (h : acl = q) (h0 : (sa.begin (cntK apL apL.length) 6 (mkP apL) at' ak acl av).1 = 0) => by subst h; exact HAP0.out.beginK _ 6 (mkP apL) (t := at') (kd := ak) (v := av) h0 (by decide))
        have HK2 := Lib.hid (fun (h : acl ≠ q ∨ (sa.begin (cntK apL apL.length) 6 (mkP apL) at' ak acl av).1 ≠ 0) => HAP0.out.beginO _ 6 (mkP apL) (t := at') (kd := ak) (v := av) h (by decide))
        have HBB := Lib.hid (begin_two hb ha _ _ apL sb _ at' ak acl av w w3 _ apFit HG1.out hT3.swap (by have := HJ.out; omega))
        clear hT3 hk3
        generalize (sa.begin (cntK apL apL.length) 6 (mkP apL) at' ak acl av).1 = er at *
        generalize (sa.begin (cntK apL apL.length) 6 (mkP apL) at' ak acl av).2 = sa' at *
        by_cases h0 : er = 0
        · subst h0
          by_cases hc : acl = q
          · obtain ⟨hz0, hap⟩ := HK1.out hc rfl
            have HAP := Lib.hid hap
            have hcq : (acl == q) = true := by rw [beq_iff_eq]; exact hc
            rw [hz0] at HBB
            clear hz0 hap HK1 HK2 HBG
            rw [hc] at HBB HAP
            go_wp2_with fail
            refine HBB.out.mono ?_
            rintro e w4 ⟨rfl, hT4, hk4⟩
            have HTV := Lib.hid hT4.swap
            clear hT4 hk4 y0 y1 y3 y4 y5
            go_wp2_with fail
            refine (value_two ha hb _ _ apL _ _ q w w4 _ HWQ.out HTV.out).mono ?_
            rintro e w8 ⟨rfl, rfl⟩
            go_wp2_with fail
            refine (value_two hb ha _ _ apL _ _ q w w8 _ HWQ.out HTV.out.swap).mono ?_
            rintro e w9 ⟨rfl, rfl⟩
            rw [← HAP.out.value]
            generalize BS.value _ q = vv
            go_wp2_with fail
            go_roundw
            case rel => exact ⟨j + 1, _, _, HLT.out, by go_num, Lib.hid ⟨(HTV.out.less (fun z hz => hz.elim)).more (by omega) (by omega), HAP.out⟩⟩
            case measure => simp [intOf]; omega
          · have HAP := Lib.hid (HK2.out (.inl hc))
            have hcq : (acl == q) = false := by rw [beq_eq_false_iff_ne]; exact hc
            have HTV := Lib.hid HT3.out
            go_wp2_with fail
            refine (value_two ha hb _ _ apL _ _ q w w3 _ HWQ.out HTV.out).mono ?_
            rintro e w8 ⟨rfl, rfl⟩
            go_wp2_with fail
            refine (value_two hb ha _ _ apL _ _ q w w8 _ HWQ.out HTV.out.swap).mono ?_
            rintro e w9 ⟨rfl, rfl⟩
            rw [← HAP.out.value]
            generalize BS.value _ q = vv
            go_wp2_with fail
            go_roundw
            case rel => exact ⟨j + 1, _, _, HLT.out, by go_num, Lib.hid ⟨(HTV.out.less (fun z hz => hz.elim)).more (by omega) (by omega), HAP.out⟩⟩
            case measure => simp [intOf]; omega
        · have HAP := Lib.hid (HK2.out (.inr h0))
          have he0 : (er == 0) = false := by rw [beq_eq_false_iff_ne]; exact h0
          have HTV := Lib.hid HT3.out
          go_wp2_with fail
          refine (value_two ha hb _ _ apL _ _ q w w3 _ HWQ.out HTV.out).mono ?_
          rintro e w8 ⟨rfl, rfl⟩
          go_wp2_with fail
          refine (value_two hb ha _ _ apL _ _ q w w8 _ HWQ.out HTV.out.swap).mono ?_
          rintro e w9 ⟨rfl, rfl⟩
          rw [← HAP.out.value]
          generalize BS.value _ q = vv
          go_wp2_with fail
          go_roundw
          case rel => exact ⟨j + 1, _, _, HLT.out, by go_num, Lib.hid ⟨(HTV.out.less (fun z hz => hz.elim)).more (by omega) (by omega), HAP.out⟩⟩
          case measure => simp [intOf]; omega
      · go_wp2_with fail
        generalize wr.alloc (.cells #[.bool true, .int .i64 at', .int .i64 an, .int .i64 ak, .int .i64 acl, .int .i64 av] 33) = W1 at *
        refine HBU.out.mono ?_
        rintro e w2 ⟨rfl, hu2⟩
        have HT2 := Lib.hid (HT1.out.up hu2)
        have HB2 := Lib.hid ((hu2.block z (Array.getElem?_eq_some_iff.1 HB0.out).1).trans HB0.out)
        have y0 := cell_of_row _ _ 0 _ _ _ HB2.out
        replace y1 := cell_of_row _ _ 1 _ _ _ HB2.out
        have y2 := cell_of_row _ _ 2 _ _ _ HB2.out
        simp only [List.getElem?_toArray, List.getElem?_cons_zero, List.getElem?_cons_succ] at y0 y1 y2
        have HEN := Lib.hid (end_two ha hb _ _ apL sa sb at' an w w2 _ (mkP apL) HG1.out HT2.out (by have := HJ.out; omega))
        clear hu2 x0 x1 x2 x3 x4 x5
        go_wp2_with fail
        refine HEN.out.mono ?_
        rintro e w3 ⟨rfl, hT3, hk3⟩
        have HB3 := Lib.hid ((hk3 z rfl).trans HB2.out)
        have HT3 := Lib.hid hT3
        replace y0 := cell_of_row _ _ 0 _ _ _ HB3.out
        replace y1 := cell_of_row _ _ 1 _ _ _ HB3.out
        replace y2 := cell_of_row _ _ 2 _ _ _ HB3.out
        simp only [List.getElem?_toArray, List.getElem?_cons_zero, List.getElem?_cons_succ] at y0 y1 y2
        have HK1 := Lib.hid (fun (h1 : b2 = true) (h2 : b1 = q) => HAP0.out.endK (mkP apL) (t := at') an (by rw [HBQ.out]; exact h1) (by rw [HBQ.out]; exact h2))
        have HK2 := Lib.hid (fun (h : ¬ (b2 = true ∧ b1 = q)) => HAP0.out.endO (mkP apL) (t := at') an (by rw [HBQ.out]; exact h))
        have HBB := Lib.hid (end_two hb ha _ _ apL sb _ at' an w w3 _ (mkP apL) HG1.out hT3.swap (by have := HJ.out; omega))
        clear hT3 hk3 HEN
        generalize (sa.endA (mkP apL) at' an).1 = ev at *
        generalize (sa.endA (mkP apL) at' an).2.1 = er at *
        generalize (sa.endA (mkP apL) at' an).2.2 = sa' at *
        cases b2
        · have HAP := Lib.hid (HK2.out (by simp))
          have HTV := Lib.hid HT3.out
          clear HK1 HK2 HBB
          go_wp2_with fail
          refine (value_two ha hb _ _ apL _ _ q w w3 _ HWQ.out HTV.out).mono ?_
          rintro e w8 ⟨rfl, rfl⟩
          go_wp2_with fail
          refine (value_two hb ha _ _ apL _ _ q w w8 _ HWQ.out HTV.out.swap).mono ?_
          rintro e w9 ⟨rfl, rfl⟩
          rw [← HAP.out.value]
          generalize BS.value _ q = vv
          go_wp2_with fail
          go_roundw
          case rel => exact ⟨j + 1, _, _, HLT.out, by go_num, Lib.hid ⟨(HTV.out.less (fun z hz => hz.elim)).more (by omega) (by omega), HAP.out⟩⟩
          case measure => simp [intOf]; omega
        · by_cases hc : b1 = q
          · obtain ⟨e1, e2, hap⟩ := HK1.out rfl hc
            have HAP := Lib.hid hap
            rw [← e1, ← e2] at HBB
            have hcq : (b1 == q) = true := by rw [beq_iff_eq]; exact hc
            have hn1 : (ev != ev) = false := by simp
            have hn2 : (er != er) = false := by simp
            clear hap HK1 HK2 e1 e2
            go_wp2_with fail
            refine HBB.out.mono ?_
            rintro e w4 ⟨rfl, hT4, hk4⟩
            have HTV := Lib.hid hT4.swap
            clear hT4 hk4 y0 y1 y2
            go_wp2_with fail
            refine (value_two ha hb _ _ apL _ _ q w w4 _ HWQ.out HTV.out).mono ?_
            rintro e w8 ⟨rfl, rfl⟩
            go_wp2_with fail
            refine (value_two hb ha _ _ apL _ _ q w w8 _ HWQ.out HTV.out.swap).mono ?_
            rintro e w9 ⟨rfl, rfl⟩
            rw [← HAP.out.value]
            generalize BS.value _ q = vv
            go_wp2_with fail
            go_roundw
            case rel => exact ⟨j + 1, _, _, HLT.out, by go_num, Lib.hid ⟨(HTV.out.less (fun z hz => hz.elim)).more (by omega) (by omega), HAP.out⟩⟩
            case measure => simp [intOf]; omega
          · have HAP := Lib.hid (HK2.out (fun h => hc h.2))
            have HTV := Lib.hid HT3.out
            have hcq : (b1 == q) = false := by rw [beq_eq_false_iff_ne]; exact hc
            clear HK1 HK2 HBB
            go_wp2_with fail
            refine (value_two ha hb _ _ apL _ _ q w w3 _ HWQ.out HTV.out).mono ?_
            rintro e w8 ⟨rfl, rfl⟩
            go_wp2_with fail
            refine (value_two hb ha _ _ apL _ _ q w w8 _ HWQ.out HTV.out.swap).mono ?_
            rintro e w9 ⟨rfl, rfl⟩
            rw [← HAP.out.value]
            generalize BS.value _ q = vv
            go_wp2_with fail
            go_roundw
            case rel => exact ⟨j + 1, _, _, HLT.out, by go_num, Lib.hid ⟨(HTV.out.less (fun z hz => hz.elim)).more (by omega) (by omega), HAP.out⟩⟩
            case measure => simp [intOf]; omega
    · obtain rfl : j = l.length := by omega
      clear hlt
      go_wp2_with fail
      refine (HAL.out _).mono ?_
      rintro e w2 ⟨rfl, hU⟩
      go_wp2_with fail
      go_ret
      exact ⟨rfl, HV.out.1.1.trans hU⟩

end Go.Proofs.Ytpapcheliohacaa
