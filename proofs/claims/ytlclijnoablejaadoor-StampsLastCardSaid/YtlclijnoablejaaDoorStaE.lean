/-
  The last one, the program's and the document's.
-/
import Derived.Test.YtlclijnoablejaaDoorStaD
set_option linter.unusedVariables false
set_option linter.unusedSimpArgs false
namespace Go.Proofs.YtlclijnoablejaaDoor
open Go.RowKit

def accB (L : List (List Int)) (t j : Nat) : Bool := (List.range j).all fun c => c == t || domI (L.getD t []) (L.getD c [])
theorem accB_succ (L : List (List Int)) (t j : Nat) : accB L t (j + 1) = (accB L t j && (j == t || domI (L.getD t []) (L.getD j []))) := by
  unfold accB
  rw [List.range_succ, List.all_append]
  simp
def domAll (L : List (List Int)) (t : Nat) : Bool := accB L t L.length
def lastGo (L : List (List Int)) : Nat → Nat → Int
  | 0, _ => -1
  | f + 1, j => if domAll L j then (j : Int) else lastGo L f (j + 1)
def lastP (L : List (List Int)) : Int := lastGo L L.length 0
theorem lastGo_skip (L : List (List Int)) (j : Nat) (f : Nat) (h : ∀ i, i < j → domAll L i = false) : lastGo L (f + j) 0 = lastGo L f j := by
  induction j generalizing f with
  | zero => rfl
  | succ j ih =>
    have h1 := ih (f + 1) (fun i hi => h i (by omega))
    rw [show f + (j + 1) = f + 1 + j by omega, h1]
    show (if domAll L j then (j : Int) else lastGo L f (j + 1)) = lastGo L f (j + 1)
    rw [h j (by omega)]
    rfl
theorem lastP_found {L : List (List Int)} {j : Nat} (hj : j < L.length) (h : ∀ i, i < j → domAll L i = false) (hd : domAll L j = true) : lastP L = j := by
  unfold lastP
  have := lastGo_skip L j (L.length - j) h
  rw [show L.length - j + j = L.length by omega] at this
  rw [this]
  obtain ⟨f, hf⟩ : ∃ f, L.length - j = f + 1 := ⟨L.length - j - 1, by omega⟩
  rw [hf]
  show (if domAll L j then (j : Int) else lastGo L f (j + 1)) = j
  rw [hd]; rfl
theorem lastP_none {L : List (List Int)} (h : ∀ i, i < L.length → domAll L i = false) : lastP L = -1 := by
  unfold lastP
  have := lastGo_skip L L.length 0 h
  rw [Nat.zero_add] at this
  rw [this]; rfl

set_option maxRecDepth 10000 in
set_option maxHeartbeats 2000000 in
theorem last_any (L : List (List Int)) (A : Option Addr) (cc : Nat) (w : World) (hring : Ring w) (hL : L.length ≤ 9223372036854775807) (hb : BRow w A L) :
    Calls Tryd.prog 17 #[.slice A L.length cc] w fun e w' => e = .returned (.int .i64 (if fineBd L then lastP L else -1)) ∧ Dr w w' := by
  have HB := Lib.hid hb
  have HG := Lib.hid hring
  have HL := Lib.hid hL
  have hl2 : (L.length : Int) ≤ 9223372036854775807 := by omega
  have HD : Hid (∀ t c A1 c1 A2 c2 W n, Dr w W → RowC w A1 c1 (L.getD t []) → RowC w A2 c2 (L.getD c []) → Calls Tryd.prog 33 #[.slice A1 (L.getD t []).length c1, .slice A2 (L.getD c []).length c2] (W.drewN n) fun e w' => e = .returned (.bool (domI (L.getD t []) (L.getD c []))) ∧ Dr (W.drewN n) w') :=
    Lib.hid (fun t c A1 c1 A2 c2 W n hW h1 h2 => dom_q _ _ _ _ _ _ _ (HG.out.up (hW.drewN n).up) h1.len h2.len (h1.up (hW.drewN n).up).row (h2.up (hW.drewN n).up).row)
  have HF := Lib.hid (sfine_any L A cc w hL hb)
  cases hfb : fineBd L
  · rw [hfb] at HF
    clear hfb hb hring HD hL
    go_enter Tryd.func17, Tryd.ntmps17
    go_wp2_with fail
    refine HF.out.mono ?_
    rintro e w2 ⟨rfl, rfl⟩
    go_wp2_with fail
    go_ret
    exact ⟨rfl, Dr.refl _⟩
  · rw [hfb] at HF
    clear hfb hb hring hL
    simp only [if_true]
    go_enter Tryd.func17, Tryd.ntmps17
    go_wp2_with fail
    refine HF.out.mono ?_
    rintro e w2 ⟨rfl, rfl⟩
    go_wp2_with fail
    go_loopw [11] (fun x wr => ∃ j : Nat, j ≤ L.length ∧ x = .int .i64 j ∧ Hid (∀ i, i < j → domAll L i = false) ∧ Hid (Dr w wr)) (fun x _ => L.length - (intOf x).toNat)
    case atStart => exact ⟨0, by omega, rfl, Lib.hid (fun i hi => absurd hi (Nat.not_lt_zero i)), Lib.hid (Dr.refl _)⟩
    case round =>
      obtain ⟨j, hj, rfl, HK, HW⟩ := hrel
      by_cases hlt : j < L.length
      · have hji : (j : Int) < L.length := by omega
        have hj0 : (0 : Int) ≤ j := by omega
        obtain ⟨b1, off1, A1, c1, rfl, hc1, hr1⟩ := HB.out j hlt
        have HC1 := Lib.hid hc1
        have HR1 := Lib.hid hr1
        clear hc1 hr1
        go_wp2_with fail
        go_loopw [4, 16] (fun x y wi => ∃ c : Nat, c ≤ L.length ∧ x = .bool (accB L j c) ∧ y = .int .i64 c ∧ Hid (Dr w wi)) (fun _ y _ => L.length - (intOf y).toNat)
        case atStart => exact ⟨0, by omega, rfl, rfl, HW⟩
        case round =>
          obtain ⟨c, hc, rfl, rfl, HV⟩ := hrel
          by_cases hltc : c < L.length
          · have hci : (c : Int) < L.length := by omega
            have hc0 : (0 : Int) ≤ c := by omega
            have HS := Lib.hid (accB_succ L j c)
            cases hacc : accB L j c
            · have HS2 : Hid (accB L j (c + 1) = false) := Lib.hid (by rw [HS.out, hacc]; rfl)
              clear hacc HS
              go_wp2_with fail
              go_quiet (fail)
              go_wp2_with fail
              go_roundw
              case rel => exact ⟨c + 1, by omega, by rw [HS2.out], by go_num, Lib.hid (Dr.drewN HV.out _)⟩
              case measure => simp [intOf]; omega
            · by_cases hcj : c = j
              · have HS2 : Hid (accB L j (c + 1) = true) := Lib.hid (by rw [HS.out, hacc, hcj]; simp)
                have hcji : ((c : Int) == (j : Int)) = true := by rw [hcj]; simp
                clear hacc HS hcj
                go_wp2_with fail
                go_quiet (fail)
                go_wp2_with fail
                go_roundw
                case rel => exact ⟨c + 1, by omega, by rw [HS2.out], by go_num, Lib.hid (Dr.drewN HV.out _)⟩
                case measure => simp [intOf]; omega
              · have hcji : ((c : Int) == (j : Int)) = false := by rw [beq_eq_false_iff_ne]; omega
                have HS2 : Hid (accB L j (c + 1) = domI (L.getD j []) (L.getD c [])) := Lib.hid (by rw [HS.out, hacc, beq_eq_false_iff_ne.2 hcj]; simp)
                obtain ⟨b2, off2, A2, c2, e2, hc2, hr2⟩ := HB.out c hltc
                injection e2 with e2
                injection e2 with e2 e3
                subst e2 e3
                have hc1' : wr.cell? ⟨b1, off1 + j, none⟩ = some (.slice A1 (L.getD j []).length c1) := (HV.out.up.cell (cell_lt HC1.out)).trans HC1.out
                have hc2' : wr.cell? ⟨b1, off1 + c, none⟩ = some (.slice A2 (L.getD c []).length c2) := (HV.out.up.cell (cell_lt hc2)).trans hc2
                have HDD := Lib.hid (fun n => HD.out j c A1 c1 A2 c2 wr n HV.out HR1.out hr2)
                clear hacc HS hcj hc2 hr2
                generalize domI (L.getD j []) (L.getD c []) = x at *
                generalize (L.getD j []).length = n1 at *
                generalize (L.getD c []).length = n2 at *
                go_wp2_with fail
                go_quiet ((go_at_call 33; exact Calls.quiet_of (HDD.out _)))
                go_wp2_with fail
                go_roundw
                case rel => exact ⟨c + 1, by omega, by rw [HS2.out], by go_num, Lib.hid (Dr.drewN HV.out _)⟩
                case measure => simp [intOf]; omega
          · obtain rfl : c = L.length := by omega
            clear hltc
            rw [show accB L j L.length = domAll L j from rfl]
            cases hda : domAll L j
            · have HK2 : Hid (∀ i, i < j + 1 → domAll L i = false) := Lib.hid (fun i hi => by
                by_cases h : i < j
                · exact HK.out i h
                · obtain rfl : i = j := by omega
                  exact hda)
              clear hda
              go_wp2_with fail
              go_roundw
              case rel => exact ⟨j + 1, by omega, by go_num, HK2, HV⟩
              case measure => simp [intOf]; omega
            · have HN := Lib.hid (lastP_found hlt HK.out hda)
              clear hda
              go_wp2_with fail
              go_ret
              exact ⟨by rw [HN.out]; rfl, HV.out⟩
      · obtain rfl : j = L.length := by omega
        clear hlt
        have HN := Lib.hid (lastP_none HK.out)
        go_wp2_with fail
        go_ret
        exact ⟨by rw [HN.out]; rfl, HW.out⟩

set_option maxRecDepth 10000 in
set_option maxHeartbeats 2000000 in
theorem rlast_any (L : List (List Int)) (A : Option Addr) (cc : Nat) (w : World) (hL : L.length ≤ 9223372036854775807) (hb : BRow w A L) :
    Calls Tryd.prog 22 #[.slice A L.length cc] w fun e w' => e = .returned (.int .i64 (lastP L)) ∧ Dr w w' := by
  have HB := Lib.hid hb
  have HL := Lib.hid hL
  have hl2 : (L.length : Int) ≤ 9223372036854775807 := by omega
  have HD : Hid (∀ t c A1 c1 A2 c2 W n, Dr w W → RowC w A1 c1 (L.getD t []) → RowC w A2 c2 (L.getD c []) → Calls Tryd.prog 19 #[.slice A1 (L.getD t []).length c1, .slice A2 (L.getD c []).length c2] (W.drewN n) fun e w' => e = .returned (.bool (domI (L.getD t []) (L.getD c []))) ∧ Dr (W.drewN n) w') :=
    Lib.hid (fun t c A1 c1 A2 c2 W n hW h1 h2 => rdom_q _ _ _ _ _ _ _ h1.le h2.le h1.cap h2.cap (h1.up (hW.drewN n).up).row (h2.up (hW.drewN n).up).row)
  · clear hb hL
    go_enter Tryd.func22, Tryd.ntmps22
    go_wp2_with fail
    go_loopw [3] (fun x wr => ∃ j : Nat, j ≤ L.length ∧ x = .int .i64 j ∧ Hid (∀ i, i < j → domAll L i = false) ∧ Hid (Dr w wr)) (fun x _ => L.length - (intOf x).toNat)
    case atStart => exact ⟨0, by omega, rfl, Lib.hid (fun i hi => absurd hi (Nat.not_lt_zero i)), Lib.hid (Dr.refl _)⟩
    case round =>
      obtain ⟨j, hj, rfl, HK, HW⟩ := hrel
      by_cases hlt : j < L.length
      · have hji : (j : Int) < L.length := by omega
        have hj0 : (0 : Int) ≤ j := by omega
        obtain ⟨b1, off1, A1, c1, rfl, hc1, hr1⟩ := HB.out j hlt
        have HC1 := Lib.hid hc1
        have HR1 := Lib.hid hr1
        clear hc1 hr1
        go_wp2_with fail
        go_loopw [4, 5] (fun x y wi => ∃ c : Nat, c ≤ L.length ∧ x = .bool (accB L j c) ∧ y = .int .i64 c ∧ Hid (Dr w wi)) (fun _ y _ => L.length - (intOf y).toNat)
        case atStart => exact ⟨0, by omega, rfl, rfl, HW⟩
        case round =>
          obtain ⟨c, hc, rfl, rfl, HV⟩ := hrel
          by_cases hltc : c < L.length
          · have hci : (c : Int) < L.length := by omega
            have hc0 : (0 : Int) ≤ c := by omega
            have HS := Lib.hid (accB_succ L j c)
            cases hacc : accB L j c
            · have HS2 : Hid (accB L j (c + 1) = false) := Lib.hid (by rw [HS.out, hacc]; rfl)
              clear hacc HS
              go_wp2_with fail
              go_quiet (fail)
              go_wp2_with fail
              go_roundw
              case rel => exact ⟨c + 1, by omega, by rw [HS2.out], by go_num, Lib.hid (Dr.drewN HV.out _)⟩
              case measure => simp [intOf]; omega
            · by_cases hcj : c = j
              · have HS2 : Hid (accB L j (c + 1) = true) := Lib.hid (by rw [HS.out, hacc, hcj]; simp)
                have hcji : ((c : Int) == (j : Int)) = true := by rw [hcj]; simp
                clear hacc HS hcj
                go_wp2_with fail
                go_quiet (fail)
                go_wp2_with fail
                go_roundw
                case rel => exact ⟨c + 1, by omega, by rw [HS2.out], by go_num, Lib.hid (Dr.drewN HV.out _)⟩
                case measure => simp [intOf]; omega
              · have hcji : ((c : Int) == (j : Int)) = false := by rw [beq_eq_false_iff_ne]; omega
                have HS2 : Hid (accB L j (c + 1) = domI (L.getD j []) (L.getD c [])) := Lib.hid (by rw [HS.out, hacc, beq_eq_false_iff_ne.2 hcj]; simp)
                obtain ⟨b2, off2, A2, c2, e2, hc2, hr2⟩ := HB.out c hltc
                injection e2 with e2
                injection e2 with e2 e3
                subst e2 e3
                have hc1' : wr.cell? ⟨b1, off1 + j, none⟩ = some (.slice A1 (L.getD j []).length c1) := (HV.out.up.cell (cell_lt HC1.out)).trans HC1.out
                have hc2' : wr.cell? ⟨b1, off1 + c, none⟩ = some (.slice A2 (L.getD c []).length c2) := (HV.out.up.cell (cell_lt hc2)).trans hc2
                have HDD := Lib.hid (fun n => HD.out j c A1 c1 A2 c2 wr n HV.out HR1.out hr2)
                clear hacc HS hcj hc2 hr2
                generalize domI (L.getD j []) (L.getD c []) = x at *
                generalize (L.getD j []).length = n1 at *
                generalize (L.getD c []).length = n2 at *
                go_wp2_with fail
                go_quiet ((go_at_call 19; exact Calls.quiet_of (HDD.out _)))
                go_wp2_with fail
                go_roundw
                case rel => exact ⟨c + 1, by omega, by rw [HS2.out], by go_num, Lib.hid (Dr.drewN HV.out _)⟩
                case measure => simp [intOf]; omega
          · obtain rfl : c = L.length := by omega
            clear hltc
            rw [show accB L j L.length = domAll L j from rfl]
            cases hda : domAll L j
            · have HK2 : Hid (∀ i, i < j + 1 → domAll L i = false) := Lib.hid (fun i hi => by
                by_cases h : i < j
                · exact HK.out i h
                · obtain rfl : i = j := by omega
                  exact hda)
              clear hda
              go_wp2_with fail
              go_roundw
              case rel => exact ⟨j + 1, by omega, by go_num, HK2, HV⟩
              case measure => simp [intOf]; omega
            · have HN := Lib.hid (lastP_found hlt HK.out hda)
              clear hda
              go_wp2_with fail
              go_ret
              exact ⟨by rw [HN.out]; rfl, HV.out⟩
      · obtain rfl : j = L.length := by omega
        clear hlt
        have HN := Lib.hid (lastP_none HK.out)
        go_wp2_with fail
        go_ret
        exact ⟨by rw [HN.out]; rfl, HW.out⟩

end Go.Proofs.YtlclijnoablejaaDoor
