/-
  lin.Right, and the document's.
-/
import Derived.Test.YtpefcbmmbpcalaaDoorAft
import Derived.Test.YtpefcbmmbpcalaaDoorResp
import Derived.Test.YtpefcbmmbpcalaaDoorRResp
set_option linter.unusedVariables false
set_option linter.unusedSimpArgs false
namespace Go.Proofs.YtpefcbmmbpcalaaDoor
open Go.RowKit

theorem respP_in {l : List OpD} {o : List Int} (h : respP l o = true) {k : Nat} (hk : k < o.length) : 0 ≤ o.getD k 0 ∧ o.getD k 0 < l.length := by
  unfold respP at h
  rw [Bool.and_eq_true] at h
  exact inR_parts (all_at h.1 hk)
/-- The value behind the first k, if each tells. -/
theorem runF_take {l : List OpD} {o : List Int} {v x : Int} {k : Nat} (hk : k < o.length) (h : runF l v ((o.take k).map Int.toNat) = some x) :
    (tellsB (l.getD (o.getD k 0).toNat op0) x = true → runF l v ((o.take (k + 1)).map Int.toNat) = some (afterV (l.getD (o.getD k 0).toNat op0) x)) ∧
    (tellsB (l.getD (o.getD k 0).toNat op0) x = false → runF l v (o.map Int.toNat) = none) := by
  have e : (o.take (k + 1)).map Int.toNat = (o.take k).map Int.toNat ++ [(o.getD k 0).toNat] := by
    rw [List.take_add_one, List.map_append, List.getElem?_eq_getElem hk, List.getD_eq_getElem?_getD, List.getElem?_eq_getElem hk]; rfl
  refine ⟨fun ht => ?_, fun ht => ?_⟩
  · rw [e]; exact runF_snoc l _ _ v h ht
  · have e2 : o.map Int.toNat = (o.take k).map Int.toNat ++ ((o.getD k 0).toNat :: (o.drop (k + 1)).map Int.toNat) := by
      have := List.take_append_drop k o
      have e3 : o.drop k = o[k] :: o.drop (k + 1) := List.drop_eq_getElem_cons hk
      conv => lhs; rw [← this, List.map_append, e3, List.map_cons]
      rw [List.getD_eq_getElem?_getD, List.getElem?_eq_getElem hk]; rfl
    rw [e2]
    have gen : ∀ (F : List Nat) (i : Nat) (r : List Nat) (v x : Int), runF l v F = some x → tellsB (l.getD i op0) x = false → runF l v (F ++ i :: r) = none := by
      intro F
      induction F with
      | nil =>
        intro i r v x h ht
        unfold runF at h
        obtain rfl := Option.some.inj h
        show (if tellsB (l.getD i op0) v = true then _ else none) = none
        rw [ht]; rfl
      | cons a F ih =>
        intro i r v x h ht
        unfold runF at h
        show (if tellsB (l.getD a op0) v = true then runF l (afterV (l.getD a op0) v) (F ++ i :: r) else none) = none
        by_cases ha : tellsB (l.getD a op0) v = true
        · rw [if_pos ha] at h ⊢
          exact ih i r _ x h ht
        · rw [if_neg ha]
    exact gen _ _ _ v x h ht

set_option maxRecDepth 10000 in
set_option maxHeartbeats 2000000 in
theorem right_any (l : List OpD) (o : List Int) (A B : Option Addr) (c d : Nat) (v : Int) (w : World) (hl : l.length ≤ 9223372036854775807) (ho : o.length ≤ d) (hd : d ≤ 9223372036854775807) (hr : OpRow w A l) (hq : Row w B o.length (IVal o)) (hB : B = none → d = 0) :
    Calls Tryd.prog 22 #[.slice A l.length c, .int .i64 v, .slice B o.length d] w fun e w' => e = .returned (.bool (checkP l == 0 && rightP l v o)) ∧ Up w w' := by
  have HCH := Lib.hid (check_any l A c w hl hr)
  have HR := Lib.hid hr
  have HQ := Lib.hid hq
  by_cases h0 : checkP l = 0
  · have h24 : l.length ≤ 24 := by
      unfold checkP at h0
      split at h0
      · split at h0
        · cases h0
        · omega
      · cases h0
    have HRE := Lib.hid (fun W (u : Up w W) => respects_any l o A B c d W (by omega) (by omega) ho hd (hr.up u) (hq.up u) hB)
    rw [h0] at HCH ⊢
    cases hrp : respP l o
    · have HO : Hid ((((0 : Int) == 0) && rightP l v o) = false) := Lib.hid (by unfold rightP; rw [hrp]; rfl)
      rw [hrp] at HRE
      clear hr hq h0 hrp h24
      go_enter Tryd.func22, Tryd.ntmps22
      go_wp2_with fail
      refine HCH.out.mono ?_
      rintro e w1 ⟨rfl, hu1⟩
      have HU1 := Lib.hid hu1
      clear hu1
      go_wp2_with fail
      refine (HRE.out _ HU1.out).mono ?_
      rintro e w2 ⟨rfl, hu2⟩
      have HU2 := Lib.hid (HU1.out.trans hu2)
      clear hu2
      go_wp2_with fail
      go_ret
      exact ⟨by rw [HO.out]; rfl, HU2.out⟩
    · have HRP : Hid ((((0 : Int) == 0) && rightP l v o) = (runF l v (o.map Int.toNat)).isSome) := Lib.hid (by unfold rightP; rw [hrp]; rfl)
      have HIN := Lib.hid (fun k (hk : k < o.length) => respP_in hrp hk)
      have HTK := Lib.hid (fun k x (hk : k < o.length) (h : runF l v ((o.take k).map Int.toNat) = some x) => runF_take hk h)
      have HAF := Lib.hid (fun q x W => after_any q x W)
      have ho2 : (o.length : Int) ≤ 9223372036854775807 := by omega
      have hl2 : (l.length : Int) ≤ 24 := by omega
      have HR0 : Hid (runF l v ((o.take 0).map Int.toNat) = some v) := Lib.hid (by rw [List.take_zero]; rfl)
      rw [hrp] at HRE
      rw [HRP.out]
      clear hr hq h0 hrp hl ho hd h24
      go_enter Tryd.func22, Tryd.ntmps22
      go_wp2_with fail
      refine HCH.out.mono ?_
      rintro e w1 ⟨rfl, hu1⟩
      have HU1 := Lib.hid hu1
      clear hu1
      go_wp2_with fail
      refine (HRE.out _ HU1.out).mono ?_
      rintro e w2 ⟨rfl, hu2⟩
      have HU2 := Lib.hid (HU1.out.trans hu2)
      clear hu2
      go_wp2_with fail
      go_loopw [7, 8, 23] (fun y rt x wr => ∃ (k : Nat) (z : Int), k ≤ o.length ∧ x = .int .i64 k ∧ y = .int .i64 z ∧ Hid (runF l v ((o.take k).map Int.toNat) = some z) ∧ Hid (Up w wr)) (fun _ _ x _ => o.length - (intOf x).toNat)
      case atStart => exact ⟨0, v, by omega, rfl, rfl, HR0, HU2⟩
      case round =>
        obtain ⟨k, z, hk, rfl, rfl, HZ, HV⟩ := hrel
        by_cases hlt : k < o.length
        · have hki : (k : Int) < o.length := by omega
          have hk0 : (0 : Int) ≤ k := by omega
          obtain ⟨a0, a1⟩ := HIN.out k hlt
          have HKL := Lib.hid hlt
          have HTT := Lib.hid (HTK.out k z hlt HZ.out)
          obtain ⟨bq, oq, rfl, y0⟩ := HQ.out.up HV.out k hlt
          unfold IVal at y0
          generalize o.getD k 0 = p at *
          obtain ⟨i, rfl⟩ : ∃ i : Nat, p = (i : Int) := ⟨p.toNat, by omega⟩
          have hil : i < l.length := by omega
          rw [Int.toNat_natCast] at HTT
          obtain ⟨bi, offi, rfl, p0, p1, p2, p3, p4⟩ := HR.out.up HV.out i hil
          have HAF1 := Lib.hid (fun W1 => HAF.out (l.getD i op0) z W1)
          generalize tellsB (l.getD i op0) z = tb at *
          generalize afterV (l.getD i op0) z = x at *
          generalize l.getD i op0 = q at *
          obtain ⟨PF, PT, PW, PV, PH⟩ := q
          unfold oagg at HAF1
          dsimp only at p0 p1 p2 p3 p4 HAF1
          clear hlt hil hk
          go_wp2_with fail
          refine (HAF1.out _).mono ?_
          rintro e w3 ⟨rfl, hu3⟩
          have HU3 := Lib.hid (HV.out.trans hu3)
          clear hu3 p0 p1 p2 p3 p4 y0
          cases tb
          · have HNO := Lib.hid (HTT.out.2 rfl)
            go_wp2_with fail
            go_ret
            exact ⟨by rw [HNO.out]; rfl, HU3.out⟩
          · have HYE := Lib.hid (HTT.out.1 rfl)
            go_wp2_with fail
            go_roundw
            case rel => exact ⟨k + 1, x, HKL.out, by go_num, rfl, HYE, HU3⟩
            case measure => simp [intOf]; omega
        · obtain rfl : k = o.length := by omega
          have HFI : Hid (runF l v (o.map Int.toNat) = some z) := Lib.hid (by have := HZ.out; rw [List.take_length] at this; exact this)
          clear hlt hk
          go_wp2_with fail
          go_ret
          exact ⟨by rw [HFI.out]; rfl, HV.out⟩
  · have HO : Hid ((checkP l == 0 && rightP l v o) = false) := Lib.hid (by rw [beq_eq_false_iff_ne.2 h0]; rfl)
    have h0b : (checkP l != 0) = true := by rw [bne_iff_ne]; exact h0
    rw [HO.out]
    clear hr hq h0
    generalize checkP l = cp at *
    go_enter Tryd.func22, Tryd.ntmps22
    go_wp2_with fail
    refine HCH.out.mono ?_
    rintro e w1 ⟨rfl, hu1⟩
    have HU1 := Lib.hid hu1
    clear hu1
    go_wp2_with fail
    go_ret
    exact ⟨rfl, HU1.out⟩

set_option maxRecDepth 10000 in
set_option maxHeartbeats 2000000 in
theorem rright_any (l : List OpD) (o : List Int) (A B : Option Addr) (c d : Nat) (v : Int) (w : World) (hl : l.length ≤ 1000000) (ho : o.length ≤ 1000000) (hr : OpRow w A l) (hq : Row w B o.length (IVal o)) :
    Calls Tryd.prog 24 #[.slice A l.length c, .int .i64 v, .slice B o.length d] w fun e w' => e = .returned (.bool (rightP l v o)) ∧ Up w w' := by
  have HR := Lib.hid hr
  have HQ := Lib.hid hq
  have HRE := Lib.hid (rrespects_any l o A B c d w hl ho hr hq)
  cases hrp : respP l o
  · have HO : Hid (rightP l v o = false) := Lib.hid (by unfold rightP; rw [hrp]; rfl)
    rw [hrp] at HRE
    clear hr hq hrp
    go_enter Tryd.func24, Tryd.ntmps24
    go_wp2_with fail
    refine HRE.out.mono ?_
    rintro e w2 ⟨rfl, hu2⟩
    have HU2 := Lib.hid hu2
    clear hu2
    go_wp2_with fail
    go_ret
    exact ⟨by rw [HO.out]; rfl, HU2.out⟩
  · have HRP : Hid (rightP l v o = (runF l v (o.map Int.toNat)).isSome) := Lib.hid (by unfold rightP; rw [hrp]; rfl)
    have HIN := Lib.hid (fun k (hk : k < o.length) => respP_in hrp hk)
    have HTK := Lib.hid (fun k x (hk : k < o.length) (h : runF l v ((o.take k).map Int.toNat) = some x) => runF_take hk h)
    have ho2 : (o.length : Int) ≤ 1000000 := by omega
    have hl2 : (l.length : Int) ≤ 1000000 := by omega
    have HR0 : Hid (runF l v ((o.take 0).map Int.toNat) = some v) := Lib.hid (by rw [List.take_zero]; rfl)
    rw [hrp] at HRE
    rw [HRP.out]
    clear hr hq hrp hl ho
    go_enter Tryd.func24, Tryd.ntmps24
    go_wp2_with fail
    refine HRE.out.mono ?_
    rintro e w2 ⟨rfl, hu2⟩
    have HU2 := Lib.hid hu2
    clear hu2
    go_wp2_with fail
    go_loopw [7, 8] (fun y x wr => ∃ (k : Nat) (z : Int), k ≤ o.length ∧ x = .int .i64 k ∧ y = .int .i64 z ∧ Hid (runF l v ((o.take k).map Int.toNat) = some z) ∧ Hid (Up w wr)) (fun _ x _ => o.length - (intOf x).toNat)
    case atStart => exact ⟨0, v, by omega, rfl, rfl, HR0, HU2⟩
    case round =>
      obtain ⟨k, z, hk, rfl, rfl, HZ, HV⟩ := hrel
      by_cases hlt : k < o.length
      · have hki : (k : Int) < o.length := by omega
        have hk0 : (0 : Int) ≤ k := by omega
        obtain ⟨a0, a1⟩ := HIN.out k hlt
        have HKL := Lib.hid hlt
        have HTT := Lib.hid (HTK.out k z hlt HZ.out)
        obtain ⟨bq, oq, rfl, y0⟩ := HQ.out.up HV.out k hlt
        unfold IVal at y0
        generalize o.getD k 0 = p at *
        obtain ⟨i, rfl⟩ : ∃ i : Nat, p = (i : Int) := ⟨p.toNat, by omega⟩
        have hil : i < l.length := by omega
        rw [Int.toNat_natCast] at HTT
        obtain ⟨bi, offi, rfl, p0, p1, p2, p3, p4⟩ := HR.out.up HV.out i hil
        have HTE : Hid (tellsB (l.getD i op0) z = ((l.getD i op0).wr || (l.getD i op0).to == -1 || (l.getD i op0).val == z)) := Lib.hid rfl
        have HAV : Hid (afterV (l.getD i op0) z = if (l.getD i op0).wr then (l.getD i op0).val else z) := Lib.hid rfl
        generalize tellsB (l.getD i op0) z = tb at *
        generalize afterV (l.getD i op0) z = x at *
        generalize l.getD i op0 = q at *
        obtain ⟨PF, PT, PW, PV, PH⟩ := q
        dsimp only at p0 p1 p2 p3 p4 HTE HAV
        have hbo := heap_alloc_new wr (.cells #[.int .i64 PF, .int .i64 PT, .bool PW, .int .i64 PV, .int .i64 PH] 28)
        have k1 : (wr.alloc (.cells #[.int .i64 PF, .int .i64 PT, .bool PW, .int .i64 PV, .int .i64 PH] 28)).cell? ⟨wr.heap.size, 1, none⟩ = some (.int .i64 PT) := cell_of_row _ _ 1 _ _ _ hbo
        have k2 : (wr.alloc (.cells #[.int .i64 PF, .int .i64 PT, .bool PW, .int .i64 PV, .int .i64 PH] 28)).cell? ⟨wr.heap.size, 2, none⟩ = some (.bool PW) := cell_of_row _ _ 2 _ _ _ hbo
        have k3 : (wr.alloc (.cells #[.int .i64 PF, .int .i64 PT, .bool PW, .int .i64 PV, .int .i64 PH] 28)).cell? ⟨wr.heap.size, 3, none⟩ = some (.int .i64 PV) := cell_of_row _ _ 3 _ _ _ hbo
        have HU3 := Lib.hid (HV.out.alloc (.cells #[.int .i64 PF, .int .i64 PT, .bool PW, .int .i64 PV, .int .i64 PH] 28))
        clear hlt hil hk hbo
        cases PW
        · by_cases hpt : PT = -1
          · have hptb : (PT != -1) = false := by rw [hpt]; rfl
            obtain rfl : tb = true := by rw [HTE.out, hpt]; rfl
            obtain rfl : x = z := by rw [HAV.out]; rfl
            have HYE := Lib.hid (HTT.out.1 rfl)
            clear hpt
            go_wp2_with fail
            go_roundw
            case rel => exact ⟨k + 1, _, HKL.out, by go_num, rfl, HYE, HU3⟩
            case measure => simp [intOf]; omega
          · have hptb : (PT != -1) = true := by rw [bne_iff_ne]; exact hpt
            cases hpv : (PV != z)
            · obtain rfl : PV = z := by simpa using hpv
              obtain rfl : tb = true := by rw [HTE.out]; simp
              obtain rfl : x = PV := by rw [HAV.out]; rfl
              have HYE := Lib.hid (HTT.out.1 rfl)
              clear hpt
              go_wp2_with fail
              go_roundw
              case rel => exact ⟨k + 1, _, HKL.out, by go_num, rfl, HYE, HU3⟩
              case measure => simp [intOf]; omega
            · obtain rfl : tb = false := by
                rw [HTE.out, beq_eq_false_iff_ne.2 hpt, beq_eq_false_iff_ne.2 (by rw [bne_iff_ne] at hpv; exact hpv)]; rfl
              have HNO := Lib.hid (HTT.out.2 rfl)
              clear hpt
              go_wp2_with fail
              go_ret
              exact ⟨by rw [HNO.out]; rfl, HU3.out⟩
        · obtain rfl : tb = true := by rw [HTE.out]; rfl
          obtain rfl : x = PV := by rw [HAV.out]; rfl
          have HYE := Lib.hid (HTT.out.1 rfl)
          go_wp2_with fail
          go_roundw
          case rel => exact ⟨k + 1, _, HKL.out, by go_num, rfl, HYE, HU3⟩
          case measure => simp [intOf]; omega
      · obtain rfl : k = o.length := by omega
        have HFI : Hid (runF l v (o.map Int.toNat) = some z) := Lib.hid (by have := HZ.out; rw [List.take_length] at this; exact this)
        clear hlt hk
        go_wp2_with fail
        go_ret
        exact ⟨by rw [HFI.out]; rfl, HV.out⟩

end Go.Proofs.YtpefcbmmbpcalaaDoor
