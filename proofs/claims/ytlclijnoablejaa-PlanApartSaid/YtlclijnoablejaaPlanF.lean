/-
  The law's walk: registers that were laid lie behind each other.
-/
import Derived.Test.YtlclijnoablejaaPlanD
set_option linter.unusedVariables false
set_option linter.unusedSimpArgs false
namespace Go.Proofs.Ytlclijnoablejaa
open Go.RowKit

structure GoodR (n : Nat) (l : List (Int × Int)) (R : List Rg) : Prop where
  len : R.length = l.length
  base : ∀ j, j < l.length → (R.getD j r0).base = (sumF cellsN R j : Nat)
  loc : ∀ j, j < l.length → (R.getD j r0).loc = (sumF localsN R j : Nat)
  want : ∀ j, j < l.length → Wanted (R.getD j r0)
  fine : ∀ j, j < l.length → fineB (R.getD j r0) = true
  few : ∀ j, j ≤ l.length → sumF cellsN R j ≤ 32768 ∧ sumF localsN R j ≤ 32768
  many : ∀ j, j < l.length → (R.getD j r0).n = n
  may : ∀ j, j < l.length → (l.getD j (0, 0)).1 = -1 → (R.getD j r0).kind = 7 ∨ (R.getD j r0).kind = 1 ∧ (R.getD j r0).writer = -1
theorem goodR_of (n : Nat) (built : Bool) (l : List (Int × Int)) (hn : 1 ≤ n ∧ n ≤ 8) (hw : WriterOk n l) (hf : AllFine (regsOf n built 0 0 l) l.length) : GoodR n l (regsOf n built 0 0 l) := by
  refine ⟨regsOf_len n built l 0 0, fun j hj => ?_, fun j hj => ?_, fun j hj => ?_, fun j hj => hf j hj, fun j hj => ?_, fun j hj => ?_, fun j hj hx => ?_⟩
  · rw [regsOf_at n built l 0 0 j hj]
    show ((0 + sumF cellsN (regsOf n built 0 0 l) j : Nat) : Int) = _
    rw [Nat.zero_add]
  · rw [regsOf_at n built l 0 0 j hj]
    show ((0 + sumF localsN (regsOf n built 0 0 l) j : Nat) : Int) = _
    rw [Nat.zero_add]
  · rw [regsOf_at n built l 0 0 j hj]
    have h := wantR_ok (l.getD j (0, 0)).1 (l.getD j (0, 0)).2 n built hn (hw j hj)
    exact ⟨h.laid, h.top, h.wr, h.rd, h.tab⟩
  · have h := sum_of_fine n built l 0 0 j (by omega) (by omega) hj (fun k hk => hf k (by omega))
    omega
  · rw [regsOf_at n built l 0 0 j hj]; rfl
  · rw [regsOf_at n built l 0 0 j hj]
    unfold wantR
    dsimp only
    rw [hx]
    cases built
    · exact Or.inr ⟨rfl, rfl⟩
    · exact Or.inl rfl
theorem lay_two (n : Nat) (built : Bool) (l : List (Int × Int)) (A : Option Addr) (cc : Nat) (w : World) (hn : 1 ≤ n ∧ n ≤ 8) (hl : l.length ≤ 40) (hr : PairRow w A l) :
    Calls Try.prog 7 #[.slice A l.length cc, .int .i64 n, .int .i64 (if built then 2 else 1), .int .i64 0, .int .i64 0] w fun e w' => ∃ v er, e = .returned (.tuple #[v, .int .i64 er]) ∧ Up w w' ∧ ((er ≠ 0 ∧ v = .slice none 0 0) ∨ (er = 0 ∧ ∃ R A2 c2, v = .slice A2 l.length c2 ∧ RegRow w' A2 R ∧ GoodR n l R)) := by
  refine (lay_any n built 0 0 l A cc w hn (by omega) (by omega) hl hr).mono ?_
  rintro e w' ⟨v, er, he, hu, ⟨h1, h2, -⟩ | ⟨h1, h2, h3, h4⟩⟩
  · exact ⟨v, er, he, hu, Or.inl ⟨h1, h2⟩⟩
  · obtain ⟨A2, c2, hv, hrow⟩ := h2.row
    rw [regsOf_len] at hv
    exact ⟨v, er, he, hu, Or.inr ⟨h1, _, A2, c2, hv, hrow, goodR_of n built l hn h3 h4⟩⟩

set_option maxRecDepth 10000 in
set_option maxHeartbeats 4000000 in
theorem planApart_any (m : Int) (built : Bool) (l : List (Int × Int)) (A : Option Addr) (cc : Nat) (w : World) (hm : 0 ≤ m ∧ m ≤ 255) (hl : l.length ≤ 9223372036854775807) (hr : PairRow w A l)
    (HAL : ∀ W : World, Calls Try.prog 6 #[] W fun e w' => e = .returned (.bool true) ∧ Up W w') :
    Calls Try.prog 3 #[.slice A l.length cc, .int .u8 m, .bool built] w fun e w' => e = .returned (.bool true) ∧ Up w w' := by
  have HA := Lib.hid HAL
  have HR := Lib.hid hr
  clear HAL hr
  by_cases h12 : l.length ≤ 12
  · obtain ⟨n, hn, hn8⟩ : ∃ n : Nat, 1 + m % 4 = n ∧ (1 ≤ n ∧ n ≤ 4) := ⟨(1 + m % 4).toNat, by omega, by omega⟩
    have HLY := Lib.hid (fun W (h : PairRow W A l) => lay_two n built l A cc W ⟨hn8.1, by omega⟩ (by omega) h)
    have h12i : (l.length : Int) ≤ 12 := by omega
    have HN8 := Lib.hid hn8
    clear hn8
    cases built
    all_goals
      go_enter Try.func3, Try.ntmps3
      go_wp2_with fail
      try simp only [hn]
      refine (HLY.out _ HR.out).mono ?_
      rintro e w2 ⟨v, er, rfl, hu, hcase⟩
      have HU2 := Lib.hid hu
      have HR2 := Lib.hid (HR.out.up hu)
      clear hn hm hu HLY
      rcases hcase with ⟨her, rfl⟩ | ⟨rfl, R, A2, c2, rfl, hrow, hg⟩
      · have her2 : (er != 0) = true := by simpa using her
        go_wp2_with fail
        refine (HA.out _).mono ?_
        rintro e w3 ⟨rfl, hu3⟩
        go_wp2_with fail
        go_ret
        exact ⟨rfl, HU2.out.trans hu3⟩
      · have HG := Lib.hid hg
        have HRW := Lib.hid hrow
        clear hg hrow HR
        go_wp2_with fail
        go_loopw [11, 12, 13] (fun y z x wr => ∃ j : Nat, j ≤ l.length ∧ y = .int .i64 (sumF cellsN R j : Nat) ∧ z = .int .i64 (sumF localsN R j : Nat) ∧ x = .int .i64 j ∧ Hid (Up w2 wr)) (fun _ _ v _ => l.length - (intOf v).toNat)
        case atStart => exact ⟨0, by omega, rfl, rfl, rfl, Lib.hid (Up.refl _)⟩
        case round =>
          obtain ⟨j, hj, rfl, rfl, rfl, HV⟩ := hrel
          by_cases hlt : j < l.length
          · have hji : (j : Int) < l.length := by omega
            have hj0 : (0 : Int) ≤ j := by omega
            have hrl : j < R.length := by rw [HG.out.len]; exact hlt
            have HX : Hid (∀ W, Up wr W → ∃ q, A2 = some ⟨q, 0, none⟩ ∧ W.cell? ⟨q, j * 7, none⟩ = some (.int .i64 (R.getD j r0).kind) ∧ W.cell? ⟨q, j * 7 + 1, none⟩ = some (.int .i64 (R.getD j r0).base) ∧ W.cell? ⟨q, j * 7 + 2, none⟩ = some (.int .i64 (R.getD j r0).loc) ∧ W.cell? ⟨q, j * 7 + 3, none⟩ = some (.int .i64 (R.getD j r0).n) ∧ W.cell? ⟨q, j * 7 + 4, none⟩ = some (.int .i64 (R.getD j r0).writer) ∧ W.cell? ⟨q, j * 7 + 5, none⟩ = some (.int .i64 (R.getD j r0).reader) ∧ W.cell? ⟨q, j * 7 + 6, none⟩ = some (.int .i64 (R.getD j r0).top)) := Lib.hid (fun W u => (HRW.out.up (HV.out.trans u)) j hrl)
            have HP : Hid (∀ W, Up wr W → ∃ p off, A = some ⟨p, off, none⟩ ∧ W.cell? ⟨p, off + j * 2, none⟩ = some (.int .i64 (l.getD j (0, 0)).1) ∧ W.cell? ⟨p, off + j * 2 + 1, none⟩ = some (.int .i64 (l.getD j (0, 0)).2)) := Lib.hid (fun W u => (HR2.out.up (HV.out.trans u)) j hlt)
            have hY := HG.out.base j hlt
            have hZ := HG.out.loc j hlt
            have hN := HG.out.many j hlt
            have hD := (HG.out.want j hlt).rd
            have HFE := HG.out.few j (by omega)
            have HFI := Lib.hid (fun W => rfine_any (R.getD j r0) W (HG.out.want j hlt) (by rw [hY]; omega) (by rw [hZ]; omega))
            have hfb := HG.out.fine j hlt
            have HMR := Lib.hid (fun W => mayRead_any (R.getD j r0) ((n : Int) - 1) W (HG.out.want j hlt).laid hD (by rw [hN]; have := HN8.out; omega))
            have HMW := Lib.hid (fun (hx : (l.getD j (0, 0)).1 = -1) W => mayWrite_any (R.getD j r0) ((n : Int) - 1) W (HG.out.may j hlt hx) (by rw [hN]; have := HN8.out; omega))
            have HCE := Lib.hid (fun W => rcells_any (R.getD j r0) W (HG.out.want j hlt).laid)
            have HLO := Lib.hid (fun W => rlocals_any (R.getD j r0) W (HG.out.want j hlt).laid)
            have HS1 := sumF_succ cellsN R j hrl
            have HS2 := sumF_succ localsN R j hrl
            have hw1 := sum_wrap (sumF cellsN R j) (cellsN (R.getD j r0)) (by have := cellsN_le _ (HG.out.want j hlt).laid; omega)
            have hw2 := sum_wrap (sumF localsN R j) (localsN (R.getD j r0)) (by have := localsN_le _ (HG.out.want j hlt).laid; omega)
            rw [← HS1] at hw1
            rw [← HS2] at hw2
            rw [hfb] at HFI
            have hn1 : (1 : Int) ≤ n := by have := HN8.out; omega
            have hn4 : (n : Int) ≤ 4 := by have := HN8.out; omega
            have hnw : wrap64 ((n : Int) - 1) = (n : Int) - 1 := IntWalk.wrap64_in _ (by omega)
            clear HS1 HS2 hfb HFE hrl
            unfold rcells at HFI HMR HMW HCE HLO
            generalize l.getD j (0, 0) = a at HP HMW
            obtain ⟨a1, a2⟩ := a
            generalize R.getD j r0 = r at HX HFI HMR HMW HCE HLO hw1 hw2 hY hZ hN hD
            generalize cellsN r = k1 at *
            generalize localsN r = k2 at *
            obtain ⟨K, Y, Z, rn, rw', rr, T⟩ := r
            dsimp only at HX HFI HMR HMW HCE HLO hY hZ hN hD HP
            subst hD hN
            rw [hY, hZ] at HX HFI HMR HMW HCE HLO
            clear hY hZ
            generalize hYY : ((sumF cellsN R j : Nat) : Int) = Y' at *
            generalize hZZ : ((sumF localsN R j : Nat) : Int) = Z' at *
            clear hYY hZZ
            obtain ⟨q, rfl, x0, x1, x2, x3, x4, x5, x6⟩ := HX.out wr (Up.refl _)
            go_wp2_with fail
            refine (HFI.out _).mono ?_
            rintro e w3 ⟨rfl, hu3⟩
            have HU3 := Lib.hid hu3
            clear x0 x1 x2 x3 x4 x5 x6 hu3
            obtain ⟨q', hq, x0, x1, x2, x3, x4, x5, x6⟩ := HX.out w3 HU3.out
            obtain rfl : q = q' := by simpa using hq
            clear hq
            go_wp2_with fail
            refine (HMR.out _).mono ?_
            rintro e w4 ⟨rfl, hu4⟩
            have HU4 := Lib.hid (HU3.out.trans hu4)
            clear x0 x1 x2 x3 x4 x5 x6 hu4
            obtain ⟨q', hq, x0, x1, x2, x3, x4, x5, x6⟩ := HX.out w4 HU4.out
            obtain rfl : q = q' := by simpa using hq
            clear hq
            obtain ⟨p, off, rfl, z0, z1⟩ := HP.out w4 HU4.out
            have hend : ∀ (w9 : World), Up wr w9 → True := fun _ _ => trivial
            clear hend
            by_cases ha : a1 = -1
            · have HMX := Lib.hid (HMW.out ha)
              subst ha
              go_wp2_with fail
              refine (HMX.out _).mono ?_
              rintro e w5 ⟨rfl, hu5⟩
              have HU5 := Lib.hid (HU4.out.trans hu5)
              clear x0 x1 x2 x3 x4 x5 x6 hu5 z0 z1
              obtain ⟨q', hq, x0, x1, x2, x3, x4, x5, x6⟩ := HX.out w5 HU5.out
              obtain rfl : q = q' := by simpa using hq
              clear hq
              go_wp2_with fail
              refine (HCE.out _).mono ?_
              rintro e w6 ⟨rfl, hu6⟩
              have HU6 := Lib.hid (HU5.out.trans hu6)
              clear x0 x1 x2 x3 x4 x5 x6 hu6
              obtain ⟨q', hq, x0, x1, x2, x3, x4, x5, x6⟩ := HX.out w6 HU6.out
              obtain rfl : q = q' := by simpa using hq
              clear hq
              go_wp2_with fail
              refine (HLO.out _).mono ?_
              rintro e w7 ⟨rfl, hu7⟩
              have HU7 := Lib.hid (HV.out.trans (HU6.out.trans hu7))
              clear hu7
              go_wp2_with fail
              go_roundw
              case rel => exact ⟨j + 1, by omega, by first | rfl | rw [hw1], by first | rfl | rw [hw2], by go_num, HU7⟩
              case measure => simp [intOf]; omega
            · have ha2 : (a1 == -1) = false := by rw [beq_eq_false_iff_ne]; exact ha
              go_wp2_with fail
              refine (HCE.out _).mono ?_
              rintro e w6 ⟨rfl, hu6⟩
              have HU6 := Lib.hid (HU4.out.trans hu6)
              clear x0 x1 x2 x3 x4 x5 x6 hu6
              obtain ⟨q', hq, x0, x1, x2, x3, x4, x5, x6⟩ := HX.out w6 HU6.out
              obtain rfl : q = q' := by simpa using hq
              clear hq
              go_wp2_with fail
              refine (HLO.out _).mono ?_
              rintro e w7 ⟨rfl, hu7⟩
              have HU7 := Lib.hid (HV.out.trans (HU6.out.trans hu7))
              clear hu7
              go_wp2_with fail
              go_roundw
              case rel => exact ⟨j + 1, by omega, by first | rfl | rw [hw1], by first | rfl | rw [hw2], by go_num, HU7⟩
              case measure => simp [intOf]; omega
          · obtain rfl : j = l.length := by omega
            clear hlt
            have HSZ := Lib.hid (fun W (h : RegRow W A2 R) => size_any A2 c2 R W h (fun r hr => by
              obtain ⟨k, hk, rfl⟩ := List.getElem_of_mem hr
              have h := (HG.out.want k (by rw [← HG.out.len]; exact hk)).laid
              rw [List.getD_eq_getElem?_getD, List.getElem?_eq_getElem hk] at h
              exact h) (by rw [HG.out.len]; omega))
            rw [HG.out.len] at HSZ
            go_wp2_with fail
            refine (HSZ.out _ (HRW.out.up HV.out)).mono ?_
            rintro e w4 ⟨rfl, hu4⟩
            have HU4 := Lib.hid (HU2.out.trans (HV.out.trans hu4))
            clear hu4
            go_wp2_with fail
            refine (HA.out _).mono ?_
            rintro e w5 ⟨rfl, hu5⟩
            have HU5 := Lib.hid (HU4.out.trans hu5)
            clear hu5
            go_wp2_with fail
            go_ret
            exact ⟨rfl, HU5.out⟩
  · have h12i : (12 : Int) < l.length := by omega
    have hl2 : (l.length : Int) ≤ 9223372036854775807 := by omega
    go_enter Try.func3, Try.ntmps3
    go_wp2_with fail
    refine (HA.out _).mono ?_
    rintro e w2 ⟨rfl, hu⟩
    go_wp2_with fail
    go_ret
    exact ⟨rfl, hu⟩

end Go.Proofs.Ytlclijnoablejaa
