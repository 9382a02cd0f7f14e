/-
  The document's Fine.
-/
import Derived.Test.YtpefcbmmbpcalaaDoorFinP
import Derived.Deep.DeepCutAuto
import Derived.Deep.RegionHeld3
import Derived.BigQuiet
set_option linter.unusedVariables false
set_option linter.unusedSimpArgs false
namespace Go.Proofs.YtpefcbmmbpcalaaDoor
open Go.RowKit

/-- okOp's four tests. -/
theorem okOp_is {l : List OpD} {j : Nat} : okOp l j = (decide (fromJ l j ≤ (l.getD j op0).frm) && ((l.getD j op0).to == -1 || decide ((l.getD j op0).frm ≤ (l.getD j op0).to)) && (decide (0 ≤ (l.getD j op0).thr) && decide ((l.getD j op0).thr < 8)) && okLast (lastOf l (l.getD j op0).thr j) (l.getD j op0)) := by
  unfold okOp
  have e1 : (!decide ((l.getD j op0).frm < fromJ l j)) = decide (fromJ l j ≤ (l.getD j op0).frm) := by
    by_cases h : (l.getD j op0).frm < fromJ l j
    · rw [decide_eq_true h, decide_eq_false (by omega)]; rfl
    · rw [decide_eq_false h, decide_eq_true (by omega)]; rfl
  have e2 : (!(((l.getD j op0).to != -1) && decide ((l.getD j op0).to < (l.getD j op0).frm))) = ((l.getD j op0).to == -1 || decide ((l.getD j op0).frm ≤ (l.getD j op0).to)) := by
    by_cases h : (l.getD j op0).to = -1
    · rw [h]; rfl
    · rw [bne_iff_ne.2 h, beq_eq_false_iff_ne.2 h]
      by_cases h2 : (l.getD j op0).to < (l.getD j op0).frm
      · rw [decide_eq_true h2, decide_eq_false (by omega)]; rfl
      · rw [decide_eq_false h2, decide_eq_true (by omega)]; rfl
  rw [e1, e2]
/-- The last one of a thread ahead of place j, by its place (-1: none). -/
theorem lastOf_at {l : List OpD} {t : Int} {j k : Nat} (hk : k < j) (ht : (l.getD k op0).thr = t) (hn : ∀ q, k < q → q < j → (l.getD q op0).thr ≠ t) : lastOf l t j = some (l.getD k op0) := by
  induction j with
  | zero => omega
  | succ j ih =>
    unfold lastOf
    by_cases he : k = j
    · subst he; rw [if_pos ht]
    · rw [if_neg (hn j (by omega) (by omega))]
      exact ih (by omega) (fun q h1 h2 => hn q h1 (by omega))
theorem lastOf_no {l : List OpD} {t : Int} {j : Nat} (hn : ∀ q, q < j → (l.getD q op0).thr ≠ t) : lastOf l t j = none := by
  induction j with
  | zero => rfl
  | succ j ih =>
    unfold lastOf
    rw [if_neg (hn j (by omega))]
    exact ih (fun q h => hn q (by omega))

def good (l : List OpD) (j : Nat) : Bool := decide (fromJ l j ≤ (l.getD j op0).frm) && ((l.getD j op0).to == -1 || decide ((l.getD j op0).frm ≤ (l.getD j op0).to)) && (decide (0 ≤ (l.getD j op0).thr) && decide ((l.getD j op0).thr < 8))
theorem okOp_good {l : List OpD} {j : Nat} : okOp l j = (good l j && okLast (lastOf l (l.getD j op0).thr j) (l.getD j op0)) := okOp_is

set_option maxRecDepth 10000 in
set_option maxHeartbeats 2000000 in
theorem rfine_any (l : List OpD) (A : Option Addr) (c : Nat) (w : World) (hL : l.length ≤ 9223372036854775807) (hr : OpRow w A l) :
    Calls Tryd.prog 8 #[.slice A l.length c] w fun e w' => e = .returned (.bool (fineP l)) ∧ Up w w' := by
  have HR := Lib.hid hr
  have HNO := Lib.hid (fun i h1 h2 => fineP_no (l := l) (i := i) h1 h2)
  have HYE := Lib.hid (fun h => fineP_all (l := l) h)
  have hli : (l.length : Int) ≤ 9223372036854775807 := by omega
  have HOG := Lib.hid (fun j => okOp_good (l := l) (j := j))
  have HFN := Lib.hid (fun j h => frm_nonneg (l := l) j h)
  clear hr hL
  generalize fineP l = r at *
  go_enter Tryd.func8, Tryd.ntmps8
  go_wp2_with fail
  go_loopw [3] (fun x wr => ∃ j : Nat, j ≤ l.length ∧ x = .int .i64 j ∧ Hid (∀ i, i < j → okOp l i = true) ∧ Hid (Up w wr)) (fun x _ => l.length - (intOf x).toNat)
  case atStart => exact ⟨0, by omega, rfl, Lib.hid (fun i hi => absurd hi (Nat.not_lt_zero i)), Lib.hid (Up.refl _)⟩
  case round =>
    obtain ⟨j, hj, rfl, HK, HV⟩ := hrel
    by_cases hlt : j < l.length
    · have hji : (j : Int) < l.length := by omega
      have hj0 : (0 : Int) ≤ j := by omega
      obtain ⟨bk, off, rfl, x0, x1, x2, x3, x4⟩ := HR.out.up HV.out j hlt
      have HFJ := Lib.hid (HFN.out j HK.out)
      have HGD : Hid (good l j = (decide (fromJ l j ≤ (l.getD j op0).frm) && ((l.getD j op0).to == -1 || decide ((l.getD j op0).frm ≤ (l.getD j op0).to)) && (decide (0 ≤ (l.getD j op0).thr) && decide ((l.getD j op0).thr < 8)))) := Lib.hid rfl
      have HPR : Hid (0 < j → ∃ b f, (some ⟨bk, off, none⟩ : Option Addr) = some ⟨b, f, none⟩ ∧ wr.cell? ⟨b, f + (j - 1) * 5, none⟩ = some (.int .i64 (fromJ l j))) := Lib.hid (fun h => by
        obtain ⟨b, f, e, y0, _⟩ := HR.out.up HV.out (j - 1) (by omega)
        exact ⟨b, f, e, by unfold fromJ; rw [if_neg (by omega)]; exact y0⟩)
      have HF0 : Hid (j = 0 → fromJ l j = 0) := Lib.hid (fun h => by unfold fromJ; rw [if_pos h])
      generalize hgd : good l j = gd at *
      have HGJ := Lib.hid hgd
      clear hgd
      generalize fromJ l j = fj at *
      generalize hoj : l.getD j op0 = oj at *
      have HOJ := Lib.hid hoj
      clear hoj
      obtain ⟨F, T, Wr, V, Th⟩ := oj
      dsimp only at x0 x1 x2 x3 x4 HGD
      have HBX := Lib.hid (heap_alloc_new wr (.cells #[.int .i64 F, .int .i64 T, .bool Wr, .int .i64 V, .int .i64 Th] 28))
      have HUA := Lib.hid (HV.out.alloc (.cells #[.int .i64 F, .int .i64 T, .bool Wr, .int .i64 V, .int .i64 Th] 28))
      go_upto_region 5 with fail
      go_cut [55] (fun s wx => s = .bool (!gd) ∧ Hid (Up (wr.alloc (.cells #[.int .i64 F, .int .i64 T, .bool Wr, .int .i64 V, .int .i64 Th] 28)) wx))
      case first =>
        by_cases h1 : F < 0
        · have HN : Hid (gd = false) := Lib.hid (by rw [HGD.out, decide_eq_false (by have := HFJ.out; omega)]; rfl)
          clear HGD
          go_quiet (fail)
          go_wp2_with fail
          go_meet
          exact ⟨by rw [HN.out]; rfl, Lib.hid (below_drewN (Up.refl _) _)⟩
        · have hd1 : decide (F < 0) = false := decide_eq_false h1
          cases hq : (T != -1)
          · by_cases h3 : Th < 0
            · have HN : Hid (gd = false) := Lib.hid (by rw [HGD.out]; simp; omega)
              clear HGD
              go_quiet (fail)
              go_wp2_with fail
              go_meet
              exact ⟨by rw [HN.out]; rfl, Lib.hid (below_drewN (Up.refl _) _)⟩
            · have hd3 : decide (Th < 0) = false := decide_eq_false h3
              by_cases h4 : 7 < Th
              · clear h3
                have HN : Hid (gd = false) := Lib.hid (by rw [HGD.out]; simp; omega)
                clear HGD
                go_quiet (fail)
                go_wp2_with fail
                go_meet
                exact ⟨by rw [HN.out]; rfl, Lib.hid (below_drewN (Up.refl _) _)⟩
              · have hd4 : decide (7 < Th) = false := decide_eq_false h4
                by_cases h5 : 0 < j
                · obtain ⟨b5, f5, e5, y5⟩ := HPR.out h5
                  cases e5
                  have hl5 := cell_lt y5
                  have hj5 : (0 : Int) < j := by omega
                  have hjm : (j : Int) - 1 = ((j - 1 : Nat) : Int) := by omega
                  have hw5 : IntKind.i64.wrap ((j : Int) - 1) = ((j - 1 : Nat) : Int) := by rw [IntWalk.i64_in _ (by omega), hjm]
                  have hji5 : ((j - 1 : Nat) : Int) < l.length := by omega
                  have hj05 : (0 : Int) ≤ ((j - 1 : Nat) : Int) := by omega
                  generalize j - 1 = jj at *
                  clear hjm
                  by_cases h6 : F < fj
                  · have HN : Hid (gd = false) := Lib.hid (by rw [HGD.out]; simp; omega)
                    clear HGD
                    go_quiet (fail)
                    go_wp2_with fail
                    go_meet
                    exact ⟨by rw [HN.out]; rfl, Lib.hid (below_drewN (Up.refl _) _)⟩
                  · have hd6 : decide (F < fj) = false := decide_eq_false h6
                    have HN : Hid (gd = true) := Lib.hid (by rw [HGD.out]; simp at hq ⊢; omega)
                    clear HGD
                    go_quiet (fail)
                    go_wp2_with fail
                    go_meet
                    exact ⟨by rw [HN.out]; rfl, Lib.hid (below_drewN (Up.refl _) _)⟩
                · have hd5 : decide ((0 : Int) < (j : Int)) = false := decide_eq_false (by omega)
                  have hd5n : decide (0 < j) = false := decide_eq_false h5
                  have HN : Hid (gd = true) := Lib.hid (by rw [HGD.out, HF0.out (by omega)]; simp at hq ⊢; omega)
                  clear HGD h5
                  go_quiet (fail)
                  go_wp2_with fail
                  go_meet
                  exact ⟨by rw [HN.out]; rfl, Lib.hid (below_drewN (Up.refl _) _)⟩
          · by_cases h2 : T < F
            · have HN : Hid (gd = false) := Lib.hid (by rw [HGD.out]; rw [bne_iff_ne] at hq; simp; omega)
              clear HGD
              go_quiet (fail)
              go_wp2_with fail
              go_meet
              exact ⟨by rw [HN.out]; rfl, Lib.hid (below_drewN (Up.refl _) _)⟩
            · have hd2 : decide (T < F) = false := decide_eq_false h2
              by_cases h3 : Th < 0
              · have HN : Hid (gd = false) := Lib.hid (by rw [HGD.out]; simp; omega)
                clear HGD
                go_quiet (fail)
                go_wp2_with fail
                go_meet
                exact ⟨by rw [HN.out]; rfl, Lib.hid (below_drewN (Up.refl _) _)⟩
              · have hd3 : decide (Th < 0) = false := decide_eq_false h3
                by_cases h4 : 7 < Th
                · clear h3
                  have HN : Hid (gd = false) := Lib.hid (by rw [HGD.out]; simp; omega)
                  clear HGD
                  go_quiet (fail)
                  go_wp2_with fail
                  go_meet
                  exact ⟨by rw [HN.out]; rfl, Lib.hid (below_drewN (Up.refl _) _)⟩
                · have hd4 : decide (7 < Th) = false := decide_eq_false h4
                  by_cases h5 : 0 < j
                  · obtain ⟨b5, f5, e5, y5⟩ := HPR.out h5
                    cases e5
                    have hl5 := cell_lt y5
                    have hj5 : (0 : Int) < j := by omega
                    have hjm : (j : Int) - 1 = ((j - 1 : Nat) : Int) := by omega
                    have hw5 : IntKind.i64.wrap ((j : Int) - 1) = ((j - 1 : Nat) : Int) := by rw [IntWalk.i64_in _ (by omega), hjm]
                    have hji5 : ((j - 1 : Nat) : Int) < l.length := by omega
                    have hj05 : (0 : Int) ≤ ((j - 1 : Nat) : Int) := by omega
                    generalize j - 1 = jj at *
                    clear hjm
                    by_cases h6 : F < fj
                    · have HN : Hid (gd = false) := Lib.hid (by rw [HGD.out]; simp; omega)
                      clear HGD
                      go_quiet (fail)
                      go_wp2_with fail
                      go_meet
                      exact ⟨by rw [HN.out]; rfl, Lib.hid (below_drewN (Up.refl _) _)⟩
                    · have hd6 : decide (F < fj) = false := decide_eq_false h6
                      have HN : Hid (gd = true) := Lib.hid (by rw [HGD.out]; simp at hq ⊢; omega)
                      clear HGD
                      go_quiet (fail)
                      go_wp2_with fail
                      go_meet
                      exact ⟨by rw [HN.out]; rfl, Lib.hid (below_drewN (Up.refl _) _)⟩
                  · have hd5 : decide ((0 : Int) < (j : Int)) = false := decide_eq_false (by omega)
                    have hd5n : decide (0 < j) = false := decide_eq_false h5
                    have HN : Hid (gd = true) := Lib.hid (by rw [HGD.out, HF0.out (by omega)]; simp at hq ⊢; omega)
                    clear HGD h5
                    go_quiet (fail)
                    go_wp2_with fail
                    go_meet
                    exact ⟨by rw [HN.out]; rfl, Lib.hid (below_drewN (Up.refl _) _)⟩
      case rest =>
        obtain ⟨rfl, HUD⟩ := hcut
        have HBW := Lib.hid (box_up HBX.out HUD.out)
        have HVW := Lib.hid (HUA.out.trans HUD.out)
        have HJB : Hid (j < l.length) := Lib.hid hlt
        have HOK : Hid (okOp l j = (gd && okLast (lastOf l Th j) ⟨F, T, Wr, V, Th⟩)) := Lib.hid (by rw [HOG.out j, HGJ.out, HOJ.out])
        have HNJ : Hid (okOp l j = false → r = false) := Lib.hid (fun h => HNO.out j hlt h)
        have HNK : Hid (okOp l j = true → ∀ i, i < j + 1 → okOp l i = true) := Lib.hid (fun h i hi => by
          by_cases h2 : i < j
          · exact HK.out i h2
          · obtain rfl : i = j := by omega
            exact h)
        have hjc : (j : Int) ≤ 9223372036854775807 := by omega
        clear x0 x1 x2 x3 x4 HBX HUA HPR HF0 HGD HFJ HGJ HOG HFN HUD HNO
        cases gd
        · have HN : Hid (r = false) := Lib.hid (HNJ.out (by rw [HOK.out]; rfl))
          clear HOK HNJ HNK
          go_wp2_with fail
          go_ret
          exact ⟨by rw [HN.out]; rfl, HVW.out⟩
        · have HOK2 : Hid (okOp l j = okLast (lastOf l Th j) ⟨F, T, Wr, V, Th⟩) := Lib.hid (by rw [HOK.out]; rfl)
          have hw1 : IntKind.i64.wrap ((j : Int) - 1) = (j : Int) - 1 := IntWalk.i64_in _ (by omega)
          have hw1b : wrap64 ((j : Int) - 1) = (j : Int) - 1 := IntWalk.wrap64_in _ (by omega)
          clear HOK
          generalize hob : wr.heap.size = ob at *
          clear hob
          go_wp2_with fail
          go_loopw [5] (fun x wq => ∃ m : Nat, m ≤ j ∧ x = .int .i64 ((m : Int) - 1) ∧ Hid (∀ q, m ≤ q → q < j → (l.getD q op0).thr ≠ Th) ∧ Hid (Up wc wq)) (fun x _ => (intOf x + 1).toNat)
          case atStart => exact ⟨j, by omega, by rfl, Lib.hid (fun q h1 h2 => absurd h1 (by omega)), Lib.hid (Up.refl _)⟩
          case round =>
            obtain ⟨m, hm, rfl, HM, HQ⟩ := hrel
            have HBQ := Lib.hid (box_up HBW.out HQ.out)
            have HVQ := Lib.hid (HVW.out.trans HQ.out)
            obtain ⟨k0, k1, k2, k3, k4⟩ := box_cells HBQ.out
            cases m with
            | zero =>
              have HLO : Hid (okOp l j = true) := Lib.hid (by rw [HOK2.out, lastOf_no (fun q hq => HM.out q (Nat.zero_le _) hq)]; rfl)
              have HYJ := Lib.hid (HNK.out HLO.out)
              rw [show (((0 : Nat) : Int) - 1) = -1 from rfl]
              clear HOK2 HNJ HNK HLO
              have hd0 : decide ((0 : Int) ≤ -1) = false := rfl
              go_wp2_with fail
              go_quiet (fail)
              go_wp2_with fail
              go_quiet (fail)
              go_wp2_with fail
              go_roundw
              case rel => exact ⟨j + 1, by omega, by go_num, HYJ, Lib.hid (below_drewN HVQ.out _)⟩
              case measure => simp [intOf]; omega
            | succ m =>
              have e1 : (((m + 1 : Nat) : Int) - 1) = (m : Int) := by omega
              rw [e1]
              clear e1
              have hml : m < l.length := by have := HJB.out; omega
              have hmi : (m : Int) < l.length := by omega
              have hm0 : (0 : Int) ≤ m := by omega
              have hdm : decide ((0 : Int) ≤ m) = true := decide_eq_true hm0
              obtain ⟨bm, fm, eA, y0, y1, y2, y3, y4⟩ := HR.out.up HVQ.out m hml
              cases eA
              by_cases ht : (l.getD m op0).thr = Th
              · have HLA : Hid (lastOf l Th j = some (l.getD m op0)) := Lib.hid (lastOf_at (by omega) ht (fun q h1 h2 => HM.out q (by omega) h2))
                have HOK3 : Hid (okOp l j = aheadB (l.getD m op0) ⟨F, T, Wr, V, Th⟩) := Lib.hid (by rw [HOK2.out, HLA.out]; rfl)
                have HAH := Lib.hid (fun W => rahead_any (l.getD m op0) ⟨F, T, Wr, V, Th⟩ W)
                clear HOK2 HLA
                generalize aheadB (l.getD m op0) ⟨F, T, Wr, V, Th⟩ = ah at *
                generalize l.getD m op0 = p at *
                obtain ⟨PF, PT, PW, PV, PH⟩ := p
                unfold oagg at HAH
                dsimp only at HAH y0 y1 y2 y3 y4 ht
                subst ht
                have hnn : (PH != PH) = false := by simp
                have HAX := Lib.hid (fun W (u : Up wr W) => (HAH.out W).mono fun e w' (h : _ ∧ _) => show _ ∧ Up wr w' from ⟨h.1, u.trans h.2⟩)
                have KP : Hid (∀ w', Up wr w' → Up wr w' ∧ w'.cell? ⟨bk, off + m * 5, none⟩ = some (.int .i64 PF) ∧ w'.cell? ⟨bk, off + m * 5 + 1, none⟩ = some (.int .i64 PT) ∧ w'.cell? ⟨bk, off + m * 5 + 2, none⟩ = some (.bool PW) ∧ w'.cell? ⟨bk, off + m * 5 + 3, none⟩ = some (.int .i64 PV) ∧ w'.cell? ⟨bk, off + m * 5 + 4, none⟩ = some (.int .i64 PH) ∧ w'.cell? ⟨ob, 0, none⟩ = some (.int .i64 F) ∧ w'.cell? ⟨ob, 1, none⟩ = some (.int .i64 T) ∧ w'.cell? ⟨ob, 2, none⟩ = some (.bool Wr) ∧ w'.cell? ⟨ob, 3, none⟩ = some (.int .i64 V) ∧ w'.cell? ⟨ob, 4, none⟩ = some (.int .i64 PH)) := Lib.hid (fun w' u => ⟨u, (u.cell (cell_lt y0)).trans y0, (u.cell (cell_lt y1)).trans y1, (u.cell (cell_lt y2)).trans y2, (u.cell (cell_lt y3)).trans y3, (u.cell (cell_lt y4)).trans y4, (u.cell (cell_lt k0)).trans k0, (u.cell (cell_lt k1)).trans k1, (u.cell (cell_lt k2)).trans k2, (u.cell (cell_lt k3)).trans k3, (u.cell (cell_lt k4)).trans k4⟩)
                go_wp2_with fail
                go_quiet (fail)
                clear y0 y1 y2 y3 y4 k0 k1 k2 k3 k4
                go_wp2_with fail
                go_region_held3 (fun w' => Up wr w' ∧ w'.cell? ⟨bk, off + m * 5, none⟩ = some (.int .i64 PF) ∧ w'.cell? ⟨bk, off + m * 5 + 1, none⟩ = some (.int .i64 PT) ∧ w'.cell? ⟨bk, off + m * 5 + 2, none⟩ = some (.bool PW) ∧ w'.cell? ⟨bk, off + m * 5 + 3, none⟩ = some (.int .i64 PV) ∧ w'.cell? ⟨bk, off + m * 5 + 4, none⟩ = some (.int .i64 PH) ∧ w'.cell? ⟨ob, 0, none⟩ = some (.int .i64 F) ∧ w'.cell? ⟨ob, 1, none⟩ = some (.int .i64 T) ∧ w'.cell? ⟨ob, 2, none⟩ = some (.bool Wr) ∧ w'.cell? ⟨ob, 3, none⟩ = some (.int .i64 V) ∧ w'.cell? ⟨ob, 4, none⟩ = some (.int .i64 PH))
                  (first | exact KP.out _ (by assumption) | exact KP.out _ (Up.refl _).drew | exact KP.out _ (below_drewN (Up.refl _) _) | exact KP.out _ (Up.drew (below_drewN (Up.refl _) _)))
                  (first | (go_at_call 25; refine (HAX.out _ (And.left (by assumption))).mono ?_; rintro e w' ⟨rfl, hb⟩))
                all_goals
                  cases ah
                  · have HN : Hid (r = false) := Lib.hid (HNJ.out (by rw [HOK3.out]))
                    go_wp2_with fail
                    go_ret
                    exact ⟨by rw [HN.out]; rfl, HVQ.out.trans (by first | assumption | exact And.left (by assumption))⟩
                  · have HYJ := Lib.hid (HNK.out (by rw [HOK3.out]))
                    go_wp2_with fail
                    go_roundw
                    case rel => exact ⟨j + 1, by omega, by go_num, HYJ, Lib.hid (HVQ.out.trans (by first | assumption | exact And.left (by assumption)))⟩
                    case measure => simp [intOf]; omega
              · have HMM : Hid (∀ q, m ≤ q → q < j → (l.getD q op0).thr ≠ Th) := Lib.hid (fun q h1 h2 => by
                  by_cases h3 : q = m
                  · subst h3; exact ht
                  · exact HM.out q (by omega) h2)
                generalize l.getD m op0 = p at *
                obtain ⟨PF, PT, PW, PV, PH⟩ := p
                dsimp only at y0 y1 y2 y3 y4 ht
                have hnn : (PH != Th) = true := by rw [bne_iff_ne]; exact ht
                have hwm : IntKind.i64.wrap ((m : Int) - 1) = (m : Int) - 1 := IntWalk.i64_in _ (by omega)
                have hwmb : wrap64 ((m : Int) - 1) = (m : Int) - 1 := IntWalk.wrap64_in _ (by omega)
                clear ht
                go_wp2_with fail
                go_quiet (fail)
                clear y0 y1 y2 y3 y4 k0 k1 k2 k3 k4
                go_wp2_with fail
                go_roundw
                case rel => exact ⟨m, by omega, by go_num, HMM, Lib.hid (below_drewN HQ.out _)⟩
                case measure => simp [intOf]
    · obtain rfl : j = l.length := by omega
      clear hlt
      have HY := Lib.hid (HYE.out HK.out)
      go_wp2_with fail
      go_ret
      exact ⟨by rw [HY.out]; rfl, HV.out⟩

end Go.Proofs.YtpefcbmmbpcalaaDoor
