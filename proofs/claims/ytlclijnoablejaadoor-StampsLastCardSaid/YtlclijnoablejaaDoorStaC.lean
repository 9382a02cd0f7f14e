/-
  The same boards; the greatest row; the last one.
-/
import Derived.Test.YtlclijnoablejaaDoorStaB
import Derived.Deep.RegionHeld3
set_option linter.unusedVariables false
set_option linter.unusedSimpArgs false
namespace Go.Proofs.YtlclijnoablejaaDoor
open Go.RowKit

theorem board_ext {L M : List (List Int)} (hl : L.length = M.length) (h : ∀ j, j < L.length → L.getD j [] = M.getD j []) : L = M := by
  apply List.ext_getElem hl
  intro j h1 h2
  have := h j h1
  rwa [List.getD_eq_getElem?_getD, List.getD_eq_getElem?_getD, List.getElem?_eq_getElem h1, List.getElem?_eq_getElem h2] at this

set_option maxRecDepth 10000 in
set_option maxHeartbeats 1000000 in
theorem same_any (L M : List (List Int)) (A B : Option Addr) (c d : Nat) (w : World) (hL : L.length ≤ 9223372036854775807) (hM : M.length ≤ 9223372036854775807) (ha : BRow w A L) (hb : BRow w B M) :
    Calls Tryd.prog 20 #[.slice A L.length c, .slice B M.length d] w fun e w' => e = .returned (.bool (decide (L = M))) ∧ Up w w' := by
  by_cases hl : L.length = M.length
  · have HA := Lib.hid ha
    have HB := Lib.hid hb
    have HL := Lib.hid hl
    obtain ⟨n, hn⟩ : ∃ n, L.length = n := ⟨_, rfl⟩
    rw [← hl, hn]
    have HN := Lib.hid hn
    have hnm : n ≤ 9223372036854775807 := by omega
    clear ha hb hn hl hL hM
    go_enter Tryd.func20, Tryd.ntmps20
    go_wp2_with fail
    go_loopw [5] (fun t wr => ∃ k : Nat, k ≤ n ∧ t = .int .i64 k ∧ Hid (∀ j, j < k → L.getD j [] = M.getD j []) ∧ Hid (Up w wr)) (fun t _ => n - (intOf t).toNat)
    case atStart => exact ⟨0, by omega, rfl, Lib.hid (fun j hj => absurd hj (by omega)), Lib.hid (Up.refl _)⟩
    case round =>
      obtain ⟨k, hk, rfl, HK, HW⟩ := hrel
      by_cases hlt : k < n
      · have hki : (k : Int) < n := by omega
        have hk0 : (0 : Int) ≤ k := by omega
        obtain ⟨b1, off1, A1, c1, rfl, hc1, hr1⟩ := HA.out.up HW.out k (by rw [HN.out]; exact hlt)
        obtain ⟨b2, off2, A2, c2, rfl, hc2, hr2⟩ := HB.out.up HW.out k (by rw [← HL.out, HN.out]; exact hlt)
        have HI : Hid (∀ W, Up wr W → Calls Tryd.prog 15 #[.slice A1 (L.getD k []).length c1, .slice A2 (M.getD k []).length c2] W fun e w' => e = .returned (.bool (decide (L.getD k [] = M.getD k []))) ∧ Up wr w') := Lib.hid (fun W hW => (ints_any _ _ _ _ _ _ W hr1.len hr2.len (hr1.up hW).row (hr2.up hW).row).mono fun e w' ⟨he, hb⟩ => ⟨he, hW.trans hb⟩)
        have KP : Hid (∀ w', Up wr w' → Up wr w' ∧ w'.cell? ⟨b1, off1 + k, none⟩ = some (.slice A1 (L.getD k []).length c1) ∧ w'.cell? ⟨b2, off2 + k, none⟩ = some (.slice A2 (M.getD k []).length c2)) := Lib.hid (fun w' u => ⟨u, (u.cell (cell_lt hc1)).trans hc1, (u.cell (cell_lt hc2)).trans hc2⟩)
        by_cases heq : L.getD k [] = M.getD k []
        · have HK2 := Lib.hid (show ∀ j, j < k + 1 → L.getD j [] = M.getD j [] from fun j hj => by
            by_cases hj2 : j < k
            · exact HK.out j hj2
            · obtain rfl : j = k := by omega
              exact heq)
          rw [decide_eq_true heq] at HI
          clear heq hr1 hr2 hc1 hc2
          generalize (L.getD k []).length = n1 at *
          generalize (M.getD k []).length = n2 at *
          go_wp2_with fail
          go_region_held3 (fun w' => Up wr w' ∧ w'.cell? ⟨b1, off1 + k, none⟩ = some (.slice A1 n1 c1) ∧ w'.cell? ⟨b2, off2 + k, none⟩ = some (.slice A2 n2 c2)) (first | exact KP.out _ (by assumption) | exact KP.out _ (Up.refl _).drew | exact KP.out _ (Up.refl _))
            (first | (go_at_call 15; refine (HI.out _ (And.left (by assumption))).mono ?_; rintro e w' ⟨rfl, hb⟩))
          go_wp2_with fail
          go_roundw
          case rel => exact ⟨k + 1, by omega, by go_num, HK2, Lib.hid (HW.out.trans (by first | assumption | exact And.left (by assumption)))⟩
          case measure => simp [intOf]; omega
        · have HF := Lib.hid (show decide (L = M) = false from decide_eq_false (fun h => heq (by rw [h])))
          rw [decide_eq_false heq] at HI
          clear heq hr1 hr2 hc1 hc2
          generalize (L.getD k []).length = n1 at *
          generalize (M.getD k []).length = n2 at *
          go_wp2_with fail
          go_region_held3 (fun w' => Up wr w' ∧ w'.cell? ⟨b1, off1 + k, none⟩ = some (.slice A1 n1 c1) ∧ w'.cell? ⟨b2, off2 + k, none⟩ = some (.slice A2 n2 c2)) (first | exact KP.out _ (by assumption) | exact KP.out _ (Up.refl _).drew | exact KP.out _ (Up.refl _))
            (first | (go_at_call 15; refine (HI.out _ (And.left (by assumption))).mono ?_; rintro e w' ⟨rfl, hb⟩))
          go_wp2_with fail
          go_ret
          exact ⟨by rw [HF.out]; rfl, HW.out.trans (by first | assumption | exact And.left (by assumption))⟩
      · obtain rfl : k = n := by omega
        have HF := Lib.hid (show decide (L = M) = true from decide_eq_true (board_ext HL.out (fun j hj => HK.out j (by rw [← HN.out]; exact hj))))
        go_wp2_with fail
        go_ret
        exact ⟨by rw [HF.out]; rfl, HW.out⟩
  · rw [decide_eq_false (show L ≠ M from fun h => hl (by rw [h]))]
    have hne : ((L.length : Int) != (M.length : Int)) = true := by rw [bne_iff_ne]; omega
    generalize L.length = n at *
    generalize M.length = m at *
    clear ha hb hl
    go_enter Tryd.func20, Tryd.ntmps20
    go_wp2_with fail
    go_ret
    exact ⟨rfl, Up.refl _⟩

/-- The greatest row behind the first j. -/
def grJ (L : List (List Int)) (j : Nat) : List Int := gr (L.take j) (L.headD [])
theorem grJ_succ (L : List (List Int)) (j : Nat) (h : j < L.length) : grJ L (j + 1) = if domI (L.getD j []) (grJ L j) then L.getD j [] else grJ L j := by
  unfold grJ gr
  rw [List.take_succ_eq_append_getElem h, List.foldl_append, List.getD_eq_getElem?_getD, List.getElem?_eq_getElem h]
  rfl
theorem grJ_all (L : List (List Int)) : grJ L L.length = gr L (L.headD []) := by unfold grJ; rw [List.take_length]
theorem head_getD (L : List (List Int)) : L.headD [] = L.getD 0 [] := by cases L <;> rfl

set_option maxRecDepth 10000 in
set_option maxHeartbeats 1000000 in
theorem greatest_any (L : List (List Int)) (A : Option Addr) (c : Nat) (w : World) (hring : Ring w) (hL : L.length ≤ 9223372036854775807) (h0 : 0 < L.length) (hb : BRow w A L) :
    Calls Tryd.prog 29 #[.slice A L.length c] w fun e w' => ∃ A' c', e = .returned (.slice A' (gr L (L.headD [])).length c') ∧ RowC w A' c' (gr L (L.headD [])) ∧ Up w w' := by
  have HB := Lib.hid hb
  have HG := Lib.hid hring
  obtain ⟨b, off, A0, c0, rfl, hc0, hr0⟩ := hb 0 h0
  have HR0 : Hid (RowC w A0 c0 (grJ L 0)) := Lib.hid (by
    show RowC w A0 c0 (L.headD [])
    rw [head_getD]; exact hr0)
  rw [← head_getD, show L.headD [] = grJ L 0 from rfl] at hc0
  rw [← grJ_all]
  have h0i : (0 : Int) < L.length := by omega
  have hl2 : (L.length : Int) ≤ 9223372036854775807 := by omega
  clear hb hr0 hring h0
  rw [Nat.add_zero] at hc0
  generalize hg0 : (grJ L 0).length = g0 at hc0
  go_enter Tryd.func29, Tryd.ntmps29
  go_wp2_with fail
  subst hg0
  go_loopw [3, 11] (fun u t wr => ∃ (j : Nat) (A' : Option Addr) (c' : Nat), j ≤ L.length ∧ t = .int .i64 j ∧ u = .slice A' (grJ L j).length c' ∧ Hid (RowC w A' c' (grJ L j)) ∧ Hid (Up w wr)) (fun _ t _ => L.length - (intOf t).toNat)
  case atStart => exact ⟨0, A0, c0, by omega, rfl, rfl, HR0, Lib.hid (Up.refl _)⟩
  case round =>
    obtain ⟨j, A', c', hj, rfl, rfl, HR, HW⟩ := hrel
    by_cases hlt : j < L.length
    · have hji : (j : Int) < L.length := by omega
      have hj0 : (0 : Int) ≤ j := by omega
      obtain ⟨b1, off1, A1, c1, e1, hc1, hr1⟩ := HB.out.up HW.out j hlt
      injection e1 with e1
      injection e1 with e1 e2
      subst e1 e2
      have HS := Lib.hid (grJ_succ L j hlt)
      have HD := Lib.hid (dom_any (L.getD j []) (grJ L j) A1 A' c1 c' wr (HG.out.up HW.out) hr1.len HR.out.len hr1.row (HR.out.up HW.out).row)
      have HR1 : Hid (RowC w A1 c1 (L.getD j [])) := Lib.hid (by
        obtain ⟨b2, off2, A2, c2, e2, hc2, hr2⟩ := HB.out j hlt
        injection e2 with e2
        injection e2 with e2 e3
        subst e2 e3
        have := (HW.out.cell (p := ⟨b, off + j, none⟩) (cell_lt hc2)).trans hc2
        rw [hc1] at this
        injection this with this
        injection this with t1 t2 t3
        subst t1 t3
        exact hr2)
      clear hr1
      have HU := Lib.hid (show ∀ w', Below wr.heap.size wr w' → Up w w' from fun w' h => HW.out.trans h)
      cases hdm : domI (L.getD j []) (grJ L j)
      · rw [hdm] at HS HD
        have HS2 : Hid (grJ L (j + 1) = grJ L j) := Lib.hid HS.out
        clear HS hdm
        generalize hg1 : (L.getD j []).length = n1 at hc1 HD
        clear hg1
        generalize hg2 : (grJ L j).length = n2 at HD
        go_wp2_with fail
        refine HD.out.mono ?_
        rintro e w2 ⟨rfl, hu2⟩
        have HU2 := Lib.hid (HU.out _ hu2)
        clear hu2
        go_wp2_with fail
        go_roundw
        case rel => exact ⟨j + 1, A', c', by omega, by go_num, by rw [HS2.out, hg2], by rw [HS2.out]; exact HR, HU2⟩
        case measure => simp [intOf]; omega
      · rw [hdm] at HS HD
        have HS2 : Hid (grJ L (j + 1) = L.getD j []) := Lib.hid HS.out
        clear HS hdm
        generalize hg1 : (L.getD j []).length = n1 at hc1 HD
        generalize hg2 : (grJ L j).length = n2 at HD
        clear hg2
        go_wp2_with fail
        refine HD.out.mono ?_
        rintro e w2 ⟨rfl, hu2⟩
        have HU2 := Lib.hid (HU.out _ hu2)
        clear hu2
        go_wp2_with fail
        go_roundw
        case rel => exact ⟨j + 1, A1, c1, by omega, by go_num, by rw [HS2.out, hg1], by rw [HS2.out]; exact HR1, HU2⟩
        case measure => simp [intOf]; omega
    · obtain rfl : j = L.length := by omega
      clear hlt
      go_wp2_with fail
      go_ret
      exact ⟨_, _, rfl, HR.out, HW.out⟩

end Go.Proofs.YtlclijnoablejaaDoor
