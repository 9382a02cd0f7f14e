/-
  The program's Fine.
-/
import Derived.Test.YtpefcbmmbpcalaaDoorFinP
import Derived.Deep.RegionHeld3
import Derived.Deep.RegionLaw
import Derived.Deep.DeepCutAuto
set_option linter.unusedVariables false
set_option linter.unusedSimpArgs false
namespace Go.Proofs.YtpefcbmmbpcalaaDoor
open Go.RowKit

def bcell8 (l : List Bool) : List Value := l.map Value.bool
/-- What the two arrays hold. -/
structure Lasts (l : List OpD) (j : Nat) (bs : List Bool) (os : List OpD) : Prop where
  bl : bs.length = 8
  ol : os.length = 8
  at8 : ∀ t : Nat, t < 8 → lastOf l t j = if bs.getD t false then some (os.getD t op0) else none
theorem Lasts.zero (l : List OpD) : Lasts l 0 (List.replicate 8 false) (List.replicate 8 op0) := by
  refine ⟨rfl, rfl, fun t ht => ?_⟩
  rw [List.getD_eq_getElem?_getD, List.getElem?_replicate, if_pos ht]; rfl
theorem Lasts.next {l : List OpD} {j t : Nat} {bs : List Bool} {os : List OpD} (h : Lasts l j bs os) (ht : t < 8) (he : (l.getD j op0).thr = t) : Lasts l (j + 1) (bs.set t true) (os.set t (l.getD j op0)) := by
  refine ⟨by rw [List.length_set]; exact h.bl, by rw [List.length_set]; exact h.ol, fun q hq => ?_⟩
  unfold lastOf
  rw [he]
  by_cases hqt : q = t
  · subst hqt
    have e1 : (bs.set q true).getD q false = true := by rw [List.getD_eq_getElem?_getD, List.getElem?_set_self (by rw [h.bl]; exact hq)]; rfl
    have e2 : (os.set q (l.getD j op0)).getD q op0 = l.getD j op0 := by rw [List.getD_eq_getElem?_getD, List.getElem?_set_self (by rw [h.ol]; exact hq)]; rfl
    rw [if_pos rfl, e1, e2]; rfl
  · rw [if_neg (by omega), List.getD_eq_getElem?_getD (l := bs.set t true), List.getD_eq_getElem?_getD (l := os.set t _), List.getElem?_set_ne (fun e => hqt e.symm), List.getElem?_set_ne (fun e => hqt e.symm), ← List.getD_eq_getElem?_getD, ← List.getD_eq_getElem?_getD]
    exact h.at8 q hq

theorem ocells_set : ∀ (os : List OpD) (t : Nat) (o : OpD), t < os.length → (((((ocells os).toArray.setIfInBounds (t * 5) (.int .i64 o.frm)).setIfInBounds (t * 5 + 1) (.int .i64 o.to)).setIfInBounds (t * 5 + 2) (.bool o.wr)).setIfInBounds (t * 5 + 3) (.int .i64 o.val)).setIfInBounds (t * 5 + 4) (.int .i64 o.thr) = (ocells (os.set t o)).toArray := by
  intro os
  induction os with
  | nil => intro t o h; cases h
  | cons a l ih =>
    intro t o h
    have e : ocells (a :: l) = ocell a ++ ocells l := rfl
    cases t with
    | zero =>
      rw [e, List.set_cons_zero, show ocells (o :: l) = ocell o ++ ocells l from rfl]
      simp [ocell]
    | succ t =>
      have h2 := ih t o (by simpa using h)
      rw [e, List.set_cons_succ, show ocells (a :: l.set t o) = ocell a ++ ocells (l.set t o) from rfl]
      simp only [List.setIfInBounds_toArray] at h2 ⊢
      have h3 := congrArg Array.toList h2
      simp only at h3
      have e5 : (ocell a).length = 5 := rfl
      rw [← h3]
      rw [List.set_append_right _ _ (by omega), List.set_append_right _ _ (by omega), List.set_append_right _ _ (by omega), List.set_append_right _ _ (by omega), List.set_append_right _ _ (by omega), e5]
      rw [show (t + 1) * 5 - 5 = t * 5 by omega, show (t + 1) * 5 + 1 - 5 = t * 5 + 1 by omega, show (t + 1) * 5 + 2 - 5 = t * 5 + 2 by omega, show (t + 1) * 5 + 3 - 5 = t * 5 + 3 by omega, show (t + 1) * 5 + 4 - 5 = t * 5 + 4 by omega]

set_option maxRecDepth 10000 in
set_option maxHeartbeats 2000000 in
theorem fine_any (l : List OpD) (A : Option Addr) (c : Nat) (w : World) (hL : l.length ≤ 9223372036854775807) (hr : OpRow w A l) :
    Calls Tryd.prog 41 #[.slice A l.length c] w fun e w' => e = .returned (.bool (fineP l)) ∧ Up w w' := by
  have HR := Lib.hid hr
  have hl2 : (l.length : Int) ≤ 9223372036854775807 := by omega
  have HNO : Hid (∀ i, i < l.length → okOp l i = false → fineP l = false) := Lib.hid (fun i h1 h2 => fineP_no h1 h2)
  have HYE : Hid ((∀ i, i < l.length → okOp l i = true) → fineP l = true) := Lib.hid fineP_all
  generalize fineP l = r at *
  obtain ⟨hh3, hh4⟩ := heap_two w (.cells (ocells (List.replicate 8 op0)).toArray 77) (.cells (bcell8 (List.replicate 8 false)).toArray 78)
  have H3 := Lib.hid hh3
  have H4 := Lib.hid hh4
  have HU0 := Lib.hid (((Up.refl w).alloc (.cells (ocells (List.replicate 8 op0)).toArray 77)).alloc (.cells (bcell8 (List.replicate 8 false)).toArray 78))
  clear hr hh3 hh4
  go_enter Tryd.func41, Tryd.ntmps41
  go_wp2_with fail
  go_loopw [5, 10] (fun f x wr => ∃ (j : Nat) (bs : List Bool) (os : List OpD), j ≤ l.length ∧ x = .int .i64 j ∧ f = .int .i64 (fromJ l j) ∧ wr.heap[w.heap.size]? = some (.cells (ocells os).toArray 77 (0, 0)) ∧ wr.heap[w.heap.size + 1]? = some (.cells (bcell8 bs).toArray 78 (0, 0)) ∧ Hid (Lasts l j bs os) ∧ Hid (∀ i, i < j → okOp l i = true) ∧ Hid (Up w wr)) (fun _ x _ => l.length - (intOf x).toNat)
  case atStart => exact ⟨0, List.replicate 8 false, List.replicate 8 op0, by omega, rfl, rfl, H3.out, H4.out, Lib.hid (Lasts.zero l), Lib.hid (fun i hi => absurd hi (Nat.not_lt_zero i)), HU0⟩
  case round =>
    obtain ⟨j, bs, os, hj, rfl, rfl, hh3, hh4, HLS, HK, HV⟩ := hrel
    by_cases hlt : j < l.length
    · have hji : (j : Int) < l.length := by omega
      have hj0 : (0 : Int) ≤ j := by omega
      obtain ⟨b, off, rfl, x0, x1, x2, x3, x4⟩ := HR.out.up HV.out j hlt
      have HH3 := Lib.hid hh3
      have HH4 := Lib.hid hh4
      have HOK : Hid (okOp l j = (!decide ((l.getD j op0).frm < fromJ l j) && !(((l.getD j op0).to != -1) && decide ((l.getD j op0).to < (l.getD j op0).frm)) && (decide (0 ≤ (l.getD j op0).thr) && decide ((l.getD j op0).thr < 8)) && okLast (lastOf l (l.getD j op0).thr j) (l.getD j op0))) := Lib.hid rfl
      have HFJ : Hid (fromJ l (j + 1) = (l.getD j op0).frm) := Lib.hid rfl
      have HNX := Lib.hid (fun (t : Nat) (ht : t < 8) (he : (l.getD j op0).thr = t) => HLS.out.next ht he)
      have HNJ := Lib.hid (HNO.out j hlt)
      have HNK : Hid (okOp l j = true → ∀ i, i < j + 1 → okOp l i = true) := Lib.hid (fun h i hi => by
        by_cases h2 : i < j
        · exact HK.out i h2
        · obtain rfl : i = j := by omega
          exact h)
      clear hh3 hh4
      generalize l.getD j op0 = o at *
      obtain ⟨F, T, Wr, V, Th⟩ := o
      dsimp only at x0 x1 x2 x3 x4 HOK HFJ HNX
      generalize fromJ l j = fj at *
      have HVA := Lib.hid (HV.out.alloc (.cells #[.int .i64 F, .int .i64 T, .bool Wr, .int .i64 V, .int .i64 Th] 28))
      by_cases hF : F < fj
      · have HN : Hid (r = false) := Lib.hid (HNJ.out (by rw [HOK.out, decide_eq_true hF]; rfl))
        clear HOK HNX HNJ HNK
        go_wp2_with fail
        go_ret
        exact ⟨by rw [HN.out]; rfl, HVA.out⟩
      · have hF' : fj ≤ F := by omega
        have hFd := decide_eq_false hF
        by_cases hTT : T ≠ -1 ∧ T < F
        · obtain ⟨hT, hTF⟩ := hTT
          have hTb : (T != -1) = true := by rw [bne_iff_ne]; exact hT
          have HN : Hid (r = false) := Lib.hid (HNJ.out (by rw [HOK.out, hFd, hTb, decide_eq_true hTF]; rfl))
          clear HOK HNX HNJ HNK hT hF hFd
          go_wp2_with fail
          go_ret
          exact ⟨by rw [HN.out]; rfl, HVA.out⟩
        · have HTT := Lib.hid hTT
          have HOK2 : Hid (okOp l j = ((decide (0 ≤ Th) && decide (Th < 8)) && okLast (lastOf l Th j) ⟨F, T, Wr, V, Th⟩)) := Lib.hid (by
            rw [HOK.out, hFd]
            by_cases hT : T = -1
            · rw [show (T != -1) = false by rw [hT]; rfl]; rfl
            · rw [decide_eq_false (show ¬ T < F by omega), Bool.and_false]; rfl)
          clear HOK hF hFd hTT
          go_upto_region 7 with fail
          go_cut [29] (fun s wx => s = .bool false ∧ Hid (wx.heap[wr.heap.size]? = some (.cells #[.int .i64 F, .int .i64 T, .bool Wr, .int .i64 V, .int .i64 Th] 28 (0, 0)) ∧ Up wr wx))
          case first =>
            have HAX : Hid ((wr.alloc (.cells #[.int .i64 F, .int .i64 T, .bool Wr, .int .i64 V, .int .i64 Th] 28)).heap[wr.heap.size]? = some (.cells #[.int .i64 F, .int .i64 T, .bool Wr, .int .i64 V, .int .i64 Th] 28 (0, 0)) ∧ Up wr (wr.alloc (.cells #[.int .i64 F, .int .i64 T, .bool Wr, .int .i64 V, .int .i64 Th] 28))) := Lib.hid ⟨heap_alloc_new wr _, (Up.refl wr).alloc _⟩
            by_cases hT : T = -1
            · have hTb : (T != -1) = false := by rw [hT]; rfl
              clear hT
              go_wp2_with fail
              go_meet
              exact ⟨congrArg Value.bool (by rw [decide_eq_false (show ¬ F < fj by omega)] <;> rfl), HAX⟩
            · have hTb : (T != -1) = true := by rw [bne_iff_ne]; exact hT
              have hTF : F ≤ T := by have := HTT.out; omega
              clear hT
              go_wp2_with fail
              go_meet
              exact ⟨congrArg Value.bool (by rw [decide_eq_false (show ¬ T < F by omega), decide_eq_false (show ¬ F < fj by omega)]; rfl), HAX⟩
          case rest =>
            obtain ⟨rfl, HAX⟩ := hcut
            have HUX := Lib.hid HAX.out.2
            have HO9 := Lib.hid HAX.out.1
            have HVX := Lib.hid (HV.out.trans HUX.out)
            have k0 : wc.cell? ⟨wr.heap.size, 0, none⟩ = some (.int .i64 F) := cell_of_row _ _ 0 _ _ _ HO9.out
            have k4 : wc.cell? ⟨wr.heap.size, 4, none⟩ = some (.int .i64 Th) := cell_of_row _ _ 4 _ _ _ HO9.out
            clear HAX HVA x0 x1 x2 x3 x4
            by_cases hH0 : Th < 0
            · have HN : Hid (r = false) := Lib.hid (HNJ.out (by rw [HOK2.out, decide_eq_false (show ¬ 0 ≤ Th by omega)]; rfl))
              clear HOK2 HNX HNJ HNK
              go_wp2_with fail
              go_ret
              exact ⟨by rw [HN.out]; rfl, HVX.out⟩
            · by_cases hH8 : 8 ≤ Th
              · have HN : Hid (r = false) := Lib.hid (HNJ.out (by rw [HOK2.out, decide_eq_false (show ¬ Th < 8 by omega)]; simp))
                have hH0' : 0 ≤ Th := by omega
                clear HOK2 HNX HNJ HNK hH0
                go_wp2_with fail
                go_ret
                exact ⟨by rw [HN.out]; rfl, HVX.out⟩
              · obtain ⟨t, rfl⟩ : ∃ t : Nat, Th = t := ⟨Th.toNat, by omega⟩
                have ht8 : t < 8 := by omega
                have ht8i : (t : Int) < 8 := by omega
                have ht0i : (0 : Int) ≤ t := by omega
                have HL := Lib.hid (HLS.out.at8 t ht8)
                have HL2 := Lib.hid (HNX.out t ht8 rfl)
                have HOK3 : Hid (okOp l j = okLast (lastOf l t j) ⟨F, T, Wr, V, t⟩) := Lib.hid (by rw [HOK2.out, decide_eq_true ht0i, decide_eq_true ht8i]; rfl)
                have HT8 := Lib.hid ht8
                have HBL : Hid (t < bs.length) := Lib.hid (by rw [HLS.out.bl]; exact ht8)
                have HB9 := Lib.hid ((HUX.out.block _ (Array.getElem?_eq_some_iff.1 HH4.out).1).trans HH4.out)
                have HP9 := Lib.hid ((HUX.out.block _ (Array.getElem?_eq_some_iff.1 HH3.out).1).trans HH3.out)
                have hc4 : wc.cell? ⟨w.heap.size + 1, t, none⟩ = some (.bool (bs.getD t false)) := by
                  rw [cell_of_row _ _ t _ _ _ HB9.out]
                  unfold bcell8
                  rw [List.getElem?_toArray, List.getElem?_map, List.getElem?_eq_getElem HBL.out, List.getD_eq_getElem?_getD, List.getElem?_eq_getElem HBL.out]; rfl
                clear HOK2 HNX hH0 hH8 ht8
                go_upto_region 12 with fail
                go_cut [52] (fun s wx => s = .bool (!okLast (lastOf l t j) ⟨F, T, Wr, V, t⟩) ∧ Hid (Up wc wx))
                case first =>
                  cases hbt : bs.getD t false
                  · rw [hbt] at HL hc4
                    have HN2 : Hid (okLast (lastOf l t j) ⟨F, T, Wr, V, t⟩ = true) := Lib.hid (by rw [HL.out]; rfl)
                    clear HOK3 HNJ HNK hbt
                    have HSK0 : Hid (wc.drew.cell? ⟨w.heap.size + 1, t, none⟩ = some (.bool false) ∧ wc.drew.cell? ⟨wr.heap.size, 4, none⟩ = some (.int .i64 t)) := Lib.hid ⟨hc4, k4⟩
                    have HWD : Hid (Up wc wc.drew) := Lib.hid (Up.refl wc).drew
                    clear hc4 k0 k4
                    refine wp_region_held_drew (S := fun w' => w'.cell? ⟨w.heap.size + 1, t, none⟩ = some (.bool false) ∧ w'.cell? ⟨wr.heap.size, 4, none⟩ = some (.int .i64 t)) (by kernel_rfl) HSK0.out (fun hS0 => ?_)
                    refine wpAnyH_take (i := 0) (v := ?_) rfl (by kernel_rfl) (by kernel_rfl) (by kernel_rfl) (fun _ _ _ h => h) (Or.inl ⟨by kernel_rfl, ?_⟩) hS0 ?_
                    rotate_left
                    · intro w hSw
                      try dsimp only at hSw
                      go_simp
                      try (with_reducible rfl)
                    try simp only [Act.put, List.setIfInBounds_toArray, List.set_cons_zero, List.set_cons_succ]
                    refine wpAnyH_take (i := 1) (v := ?_) rfl (by kernel_rfl) (by kernel_rfl) (by kernel_rfl) (fun _ _ _ h => h) (Or.inl ⟨by kernel_rfl, ?_⟩) hS0 ?_
                    rotate_left
                    · intro w hSw
                      try dsimp only at hSw
                      go_simp
                      try (with_reducible rfl)
                    try simp only [Act.put, List.setIfInBounds_toArray, List.set_cons_zero, List.set_cons_succ]
                    refine wpAnyH_take (i := 2) (v := ?_) rfl (by kernel_rfl) (by kernel_rfl) (by kernel_rfl) (fun _ _ _ h => h) (Or.inl ⟨by kernel_rfl, ?_⟩) hS0 ?_
                    rotate_left
                    · intro w hSw
                      try dsimp only at hSw
                      go_simp
                      try (with_reducible rfl)
                    try simp only [Act.put, List.setIfInBounds_toArray, List.set_cons_zero, List.set_cons_succ]
                    refine wpAnyH_take (i := 3) (v := ?_) rfl (by kernel_rfl) (by kernel_rfl) (by kernel_rfl) (fun _ _ _ h => h) (Or.inl ⟨by kernel_rfl, ?_⟩) hS0 ?_
                    rotate_left
                    · intro w hSw
                      try dsimp only at hSw
                      go_simp
                      try (with_reducible rfl)
                    try simp only [Act.put, List.setIfInBounds_toArray, List.set_cons_zero, List.set_cons_succ]
                    refine wpAnyH_take (i := 4) (v := ?_) rfl (by kernel_rfl) (by kernel_rfl) (by kernel_rfl) (fun _ _ _ h => h) (Or.inl ⟨by kernel_rfl, ?_⟩) hS0 ?_
                    rotate_left
                    · intro w hSw
                      try dsimp only at hSw
                      go_simp
                      try (with_reducible rfl)
                    try simp only [Act.put, List.setIfInBounds_toArray, List.set_cons_zero, List.set_cons_succ]
                    refine wpAnyH_take (i := 5) (v := undef) rfl (by kernel_rfl) (by kernel_rfl) (by kernel_rfl) (fun _ _ _ h => h) (Or.inr ⟨by kernel_rfl, rfl⟩) hS0 ?_
                    try simp only [Act.put, List.setIfInBounds_toArray, List.set_cons_zero, List.set_cons_succ]
                    refine wpAnyH_take (i := 6) (v := undef) rfl (by kernel_rfl) (by kernel_rfl) (by kernel_rfl) (fun _ _ _ h => h) (Or.inr ⟨by kernel_rfl, rfl⟩) hS0 ?_
                    try simp only [Act.put, List.setIfInBounds_toArray, List.set_cons_zero, List.set_cons_succ]
                    refine wpAnyH_take (i := 7) (v := undef) rfl (by kernel_rfl) (by kernel_rfl) (by kernel_rfl) (fun _ _ _ h => h) (Or.inr ⟨by kernel_rfl, rfl⟩) hS0 ?_
                    try simp only [Act.put, List.setIfInBounds_toArray, List.set_cons_zero, List.set_cons_succ]
                    refine wpAnyH_take (i := 8) (v := undef) rfl (by kernel_rfl) (by kernel_rfl) (by kernel_rfl) (fun _ _ _ h => h) (Or.inr ⟨by kernel_rfl, rfl⟩) hS0 ?_
                    try simp only [Act.put, List.setIfInBounds_toArray, List.set_cons_zero, List.set_cons_succ]
                    refine wpAnyH_take (i := 9) (v := undef) rfl (by kernel_rfl) (by kernel_rfl) (by kernel_rfl) (fun _ _ _ h => h) (Or.inr ⟨by kernel_rfl, rfl⟩) hS0 ?_
                    try simp only [Act.put, List.setIfInBounds_toArray, List.set_cons_zero, List.set_cons_succ]
                    refine wpAnyH_take (i := 10) (v := undef) rfl (by kernel_rfl) (by kernel_rfl) (by kernel_rfl) (fun _ _ _ h => h) (Or.inr ⟨by kernel_rfl, rfl⟩) hS0 ?_
                    try simp only [Act.put, List.setIfInBounds_toArray, List.set_cons_zero, List.set_cons_succ]
                    refine wpAnyH_take (i := 11) (v := undef) rfl (by kernel_rfl) (by kernel_rfl) (by kernel_rfl) (fun _ _ _ h => h) (Or.inr ⟨by kernel_rfl, rfl⟩) hS0 ?_
                    try simp only [Act.put, List.setIfInBounds_toArray, List.set_cons_zero, List.set_cons_succ]
                    refine wpAnyH_take (i := 12) (v := ?_) rfl (by kernel_rfl) (by kernel_rfl) (by kernel_rfl) (fun _ _ _ h => h) (Or.inl ⟨by kernel_rfl, ?_⟩) hS0 ?_
                    rotate_left
                    · intro w hSw
                      try dsimp only at hSw
                      go_simp
                      try (with_reducible rfl)
                    try simp only [Act.put, List.setIfInBounds_toArray, List.set_cons_zero, List.set_cons_succ]
                    refine wpAnyH_done (by kernel_rfl) ?_ _
                    try simp only [Act.put, List.setIfInBounds_toArray, List.set_cons_zero, List.set_cons_succ, List.getElem_toArray, List.getElem_cons_succ, List.getElem_cons_zero]
                    clear hS0
                    go_wp2_with fail
                    go_meet
                    exact ⟨by rw [HN2.out]; rfl, HWD⟩
                  · rw [hbt] at HL hc4
                    have HN2 : Hid (okLast (lastOf l t j) ⟨F, T, Wr, V, t⟩ = aheadB (os.getD t op0) ⟨F, T, Wr, V, t⟩) := Lib.hid (by rw [HL.out]; rfl)
                    have HP := Lib.hid (opAt_block (o := os.getD t op0) HP9.out (fun q hq => ocells_at os t (by rw [HLS.out.ol]; exact HT8.out) q hq))
                    have HAH := Lib.hid (fun W (u : Up wc W) => (ahead_any (os.getD t op0) ⟨F, T, Wr, V, t⟩ W).mono fun e w' (h : _ ∧ _) => show _ ∧ Up wc w' from ⟨h.1, u.trans h.2⟩)
                    have k1 : wc.cell? ⟨wr.heap.size, 1, none⟩ = some (.int .i64 T) := cell_of_row _ _ 1 _ _ _ HO9.out
                    have k2 : wc.cell? ⟨wr.heap.size, 2, none⟩ = some (.bool Wr) := cell_of_row _ _ 2 _ _ _ HO9.out
                    have k3 : wc.cell? ⟨wr.heap.size, 3, none⟩ = some (.int .i64 V) := cell_of_row _ _ 3 _ _ _ HO9.out
                    clear HOK3 HNJ HNK hbt HL
                    unfold oagg at HAH
                    generalize aheadB (os.getD t op0) ⟨F, T, Wr, V, t⟩ = v at *
                    generalize os.getD t op0 = p at *
                    obtain ⟨PF, PT, PW, PV, PH⟩ := p
                    dsimp only at HAH
                    obtain ⟨p0, p1, p2, p3, p4⟩ := HP.out
                    dsimp only at p0 p1 p2 p3 p4
                    have KP : Hid (∀ w', Up wc w' → Up wc w' ∧ w'.cell? ⟨w.heap.size + 1, t, none⟩ = some (.bool true) ∧ w'.cell? ⟨wr.heap.size, 0, none⟩ = some (.int .i64 F) ∧ w'.cell? ⟨wr.heap.size, 1, none⟩ = some (.int .i64 T) ∧ w'.cell? ⟨wr.heap.size, 2, none⟩ = some (.bool Wr) ∧ w'.cell? ⟨wr.heap.size, 3, none⟩ = some (.int .i64 V) ∧ w'.cell? ⟨wr.heap.size, 4, none⟩ = some (.int .i64 t) ∧ w'.cell? ⟨w.heap.size, t * 5, none⟩ = some (.int .i64 PF) ∧ w'.cell? ⟨w.heap.size, t * 5 + 1, none⟩ = some (.int .i64 PT) ∧ w'.cell? ⟨w.heap.size, t * 5 + 2, none⟩ = some (.bool PW) ∧ w'.cell? ⟨w.heap.size, t * 5 + 3, none⟩ = some (.int .i64 PV) ∧ w'.cell? ⟨w.heap.size, t * 5 + 4, none⟩ = some (.int .i64 PH)) := Lib.hid (fun w' u => ⟨u, (u.cell (cell_lt hc4)).trans hc4, (u.cell (cell_lt k0)).trans k0, (u.cell (cell_lt k1)).trans k1, (u.cell (cell_lt k2)).trans k2, (u.cell (cell_lt k3)).trans k3, (u.cell (cell_lt k4)).trans k4, (u.cell (cell_lt p0)).trans p0, (u.cell (cell_lt p1)).trans p1, (u.cell (cell_lt p2)).trans p2, (u.cell (cell_lt p3)).trans p3, (u.cell (cell_lt p4)).trans p4⟩)
                    clear hc4 k0 k1 k2 k3 k4 p0 p1 p2 p3 p4
                    go_region_held3 (fun w' => Up wc w' ∧ w'.cell? ⟨w.heap.size + 1, t, none⟩ = some (.bool true) ∧ w'.cell? ⟨wr.heap.size, 0, none⟩ = some (.int .i64 F) ∧ w'.cell? ⟨wr.heap.size, 1, none⟩ = some (.int .i64 T) ∧ w'.cell? ⟨wr.heap.size, 2, none⟩ = some (.bool Wr) ∧ w'.cell? ⟨wr.heap.size, 3, none⟩ = some (.int .i64 V) ∧ w'.cell? ⟨wr.heap.size, 4, none⟩ = some (.int .i64 t) ∧ w'.cell? ⟨w.heap.size, t * 5, none⟩ = some (.int .i64 PF) ∧ w'.cell? ⟨w.heap.size, t * 5 + 1, none⟩ = some (.int .i64 PT) ∧ w'.cell? ⟨w.heap.size, t * 5 + 2, none⟩ = some (.bool PW) ∧ w'.cell? ⟨w.heap.size, t * 5 + 3, none⟩ = some (.int .i64 PV) ∧ w'.cell? ⟨w.heap.size, t * 5 + 4, none⟩ = some (.int .i64 PH))
                      (first | exact KP.out _ (by assumption) | exact KP.out _ (Up.refl _).drew)
                      (first | (go_at_call 32; refine (HAH.out _ (And.left (by assumption))).mono ?_; rintro e w' ⟨rfl, hb⟩))
                    all_goals
                      go_wp2_with fail
                      go_meet
                      exact ⟨by rw [HN2.out], Lib.hid (by first | assumption | exact And.left (by assumption))⟩
                case rest =>
                  obtain ⟨rfl, HUD⟩ := hcut
                  clear hc4 k0 k4
                  cases hok : okLast (lastOf l t j) ⟨F, T, Wr, V, t⟩
                  · have HN : Hid (r = false) := Lib.hid (HNJ.out (by rw [HOK3.out, hok]))
                    clear HOK3 HNJ HNK hok
                    go_wp2_with fail
                    go_ret
                    exact ⟨by rw [HN.out]; rfl, HVX.out.trans HUD.out⟩
                  · have HYJ : Hid (∀ i, i < j + 1 → okOp l i = true) := Lib.hid (HNK.out (by rw [HOK3.out, hok]))
                    clear HOK3 HNJ HNK hok HL
                    go_wp2_with fail
                    have HO8 := Lib.hid ((HUD.out.block _ (Array.getElem?_eq_some_iff.1 HO9.out).1).trans HO9.out)
                    have HB8 := Lib.hid ((HUD.out.block _ (Array.getElem?_eq_some_iff.1 HB9.out).1).trans HB9.out)
                    have HP8 := Lib.hid ((HUD.out.block _ (Array.getElem?_eq_some_iff.1 HP9.out).1).trans HP9.out)
                    have HV8 := Lib.hid (HVX.out.trans HUD.out)
                    have HOB : Hid (w.heap.size + 1 < wr.heap.size) := Lib.hid (Array.getElem?_eq_some_iff.1 HH4.out).1
                    clear HO9 HB9 HP9 HVX HUD
                    generalize hob : wr.heap.size = ob at *
                    generalize hg3 : w.heap.size = g3 at *
                    have HG3 := Lib.hid hg3
                    clear hob hg3
                    have HSK : Hid (∀ w' : World, w'.heap[ob]? = wc.heap[ob]? → w'.cell? ⟨ob, 0, none⟩ = some (.int .i64 F) ∧ w'.cell? ⟨ob, 1, none⟩ = some (.int .i64 T) ∧ w'.cell? ⟨ob, 2, none⟩ = some (.bool Wr) ∧ w'.cell? ⟨ob, 3, none⟩ = some (.int .i64 V) ∧ w'.cell? ⟨ob, 4, none⟩ = some (.int .i64 t)) := Lib.hid (fun w' e => by
                      have h := e.trans HO8.out
                      exact ⟨cell_of_row _ _ 0 _ _ _ h, cell_of_row _ _ 1 _ _ _ h, cell_of_row _ _ 2 _ _ _ h, cell_of_row _ _ 3 _ _ _ h, cell_of_row _ _ 4 _ _ _ h⟩)
                    refine wp_region_held_drew (S := fun w' => w'.cell? ⟨ob, 0, none⟩ = some (.int .i64 F) ∧ w'.cell? ⟨ob, 1, none⟩ = some (.int .i64 T) ∧ w'.cell? ⟨ob, 2, none⟩ = some (.bool Wr) ∧ w'.cell? ⟨ob, 3, none⟩ = some (.int .i64 V) ∧ w'.cell? ⟨ob, 4, none⟩ = some (.int .i64 t)) (by kernel_rfl) (HSK.out _ rfl) (fun hS0 => ?_)
                    refine wpAnyH_take (i := 0) (v := ?_) rfl (by kernel_rfl) (by kernel_rfl) (by kernel_rfl) (fun _ _ _ h => h) (Or.inl ⟨by kernel_rfl, ?_⟩) hS0 ?_
                    rotate_left
                    · intro w hSw
                      try dsimp only at hSw
                      go_simp
                      try (with_reducible rfl)
                    try simp only [Act.put, List.setIfInBounds_toArray, List.set_cons_zero, List.set_cons_succ]
                    refine wpAnyH_take (i := 1) (v := ?_) rfl (by kernel_rfl) (by kernel_rfl) (by kernel_rfl) (fun _ _ _ h => h) (Or.inl ⟨by kernel_rfl, ?_⟩) hS0 ?_
                    rotate_left
                    · intro w hSw
                      try dsimp only at hSw
                      go_simp
                      try (with_reducible rfl)
                    try simp only [Act.put, List.setIfInBounds_toArray, List.set_cons_zero, List.set_cons_succ]
                    refine wpAnyH_take (i := 2) (v := ?_) rfl (by kernel_rfl) (by kernel_rfl) (by kernel_rfl) (fun _ _ _ h => h) (Or.inl ⟨by kernel_rfl, ?_⟩) hS0 ?_
                    rotate_left
                    · intro w hSw
                      try dsimp only at hSw
                      go_simp
                      try (with_reducible rfl)
                    try simp only [Act.put, List.setIfInBounds_toArray, List.set_cons_zero, List.set_cons_succ]
                    refine wpAnyH_take (i := 3) (v := ?_) rfl (by kernel_rfl) (by kernel_rfl) (by kernel_rfl) (fun _ _ _ h => h) (Or.inl ⟨by kernel_rfl, ?_⟩) hS0 ?_
                    rotate_left
                    · intro w hSw
                      try dsimp only at hSw
                      go_simp
                      try (with_reducible rfl)
                    try simp only [Act.put, List.setIfInBounds_toArray, List.set_cons_zero, List.set_cons_succ]
                    refine wpAnyH_take (i := 4) (v := ?_) rfl (by kernel_rfl) (by kernel_rfl) (by kernel_rfl) (fun _ _ _ h => h) (Or.inl ⟨by kernel_rfl, ?_⟩) hS0 ?_
                    rotate_left
                    · intro w hSw
                      try dsimp only at hSw
                      go_simp
                      try (with_reducible rfl)
                    try simp only [Act.put, List.setIfInBounds_toArray, List.set_cons_zero, List.set_cons_succ]
                    refine wpAnyH_take (i := 5) (v := ?_) rfl (by kernel_rfl) (by kernel_rfl) (by kernel_rfl) (fun _ _ _ h => h) (Or.inl ⟨by kernel_rfl, ?_⟩) hS0 ?_
                    rotate_left
                    · intro w hSw
                      try dsimp only at hSw
                      go_simp
                      try (with_reducible rfl)
                    try simp only [Act.put, List.setIfInBounds_toArray, List.set_cons_zero, List.set_cons_succ]
                    have hc4 : wc.drew.cell? ⟨g3 + 1, t, none⟩ = some (.bool (bs.getD t false)) := by
                      refine (cell_of_row wc _ t _ _ _ HB8.out).trans ?_
                      unfold bcell8
                      rw [List.getElem?_toArray, List.getElem?_map, List.getElem?_eq_getElem HBL.out, List.getD_eq_getElem?_getD, List.getElem?_eq_getElem HBL.out]; rfl
                    have hz4 : wc.drew.frozen? ⟨g3 + 1, t, none⟩ = false := by
                      show wc.frozen? _ = false
                      simp [World.frozen?, HB8.out]
                    refine wpAnyH_ready (rs := [6]) (by kernel_rfl) (by simp) ?_
                    refine AllReadyH.cons rfl (fun K hK => ?_) AllReadyH.nil
                    go_simp
                    have HW1 : Hid ((wc.setCell ⟨g3 + 1, t, none⟩ (.bool true)).drew.heap[g3 + 1]? = some (.cells (bcell8 (bs.set t true)).toArray 78 (0, 0))) := Lib.hid (by
                      rw [show ((wc.setCell ⟨g3 + 1, t, none⟩ (.bool true)).drew).heap = (wc.setCell ⟨g3 + 1, t, none⟩ (.bool true)).heap from rfl, heap_setCell_same wc (g3 + 1) t _ _ _ HB8.out]
                      unfold bcell8
                      simp [List.map_set])
                    have HP1 : Hid ((wc.setCell ⟨g3 + 1, t, none⟩ (.bool true)).drew.heap[g3]? = some (.cells (ocells os).toArray 77 (0, 0))) := Lib.hid ((heap_setCell_other wc _ _ _ (by show g3 ≠ g3 + 1; omega)).trans HP8.out)
                    have HO1 : Hid ((wc.setCell ⟨g3 + 1, t, none⟩ (.bool true)).drew.heap[ob]? = wc.heap[ob]?) := Lib.hid (heap_setCell_other wc _ _ _ (by show ob ≠ g3 + 1; have := HOB.out; omega))
                    have HV1 : Hid (Up w (wc.setCell ⟨g3 + 1, t, none⟩ (.bool true)).drew) := Lib.hid (Up.drew (Below.setCell HV8.out (show w.heap.size ≤ g3 + 1 by rw [HG3.out]; omega) _))
                    clear hc4 hz4
                    generalize (wc.setCell ⟨g3 + 1, t, none⟩ (.bool true)).drew = W1 at *
                    refine hK.out _ _ (HSK.out _ HO1.out) (fun hS1 => ?_)
                    clear hK K
                    try simp only [Act.put, List.setIfInBounds_toArray, List.set_cons_zero, List.set_cons_succ]
                    refine wpAnyH_take (i := 7) (v := ?_) rfl (by kernel_rfl) (by kernel_rfl) (by kernel_rfl) (fun _ _ _ h => h) (Or.inl ⟨by kernel_rfl, ?_⟩) hS1 ?_
                    rotate_left
                    · intro w hSw
                      try dsimp only at hSw
                      go_simp
                      try (with_reducible rfl)
                    try simp only [Act.put, List.setIfInBounds_toArray, List.set_cons_zero, List.set_cons_succ]
                    have HOA := Lib.hid (opAt_block (o := os.getD t op0) HP1.out (fun q hq => ocells_at os t (by rw [HLS.out.ol]; exact HT8.out) q hq))
                    obtain ⟨p0, p1, p2, p3, p4⟩ := HOA.out
                    have hz : ∀ q, W1.frozen? ⟨g3, q, none⟩ = false := fun q => by simp [World.frozen?, HP1.out]
                    have z0 := hz (t * 5)
                    have z1 := hz (t * 5 + 1)
                    have z2 := hz (t * 5 + 2)
                    have z3 := hz (t * 5 + 3)
                    have z4 := hz (t * 5 + 4)
                    clear hz HOA
                    refine wpAnyH_ready (rs := [8]) (by kernel_rfl) (by simp) ?_
                    refine AllReadyH.cons rfl (fun K hK => ?_) AllReadyH.nil
                    go_simp
                    have HRL : Hid ((((((W1.setCell ⟨g3, t * 5, none⟩ (.int .i64 F)).setCell ⟨g3, t * 5 + 1, none⟩ (.int .i64 T)).setCell ⟨g3, t * 5 + 2, none⟩ (.bool Wr)).setCell ⟨g3, t * 5 + 3, none⟩ (.int .i64 V)).setCell ⟨g3, t * 5 + 4, none⟩ (.int .i64 t)).heap[g3]? = some (.cells (ocells (os.set t ⟨F, T, Wr, V, t⟩)).toArray 77 (0, 0))) := Lib.hid (by
                      rw [heap_setCell_same _ g3 _ _ _ _ (heap_setCell_same _ g3 _ _ _ _ (heap_setCell_same _ g3 _ _ _ _ (heap_setCell_same _ g3 _ _ _ _ (heap_setCell_same _ g3 _ _ _ _ HP1.out))))]
                      rw [ocells_set os t ⟨F, T, Wr, V, t⟩ (by rw [HLS.out.ol]; exact HT8.out)])
                    have HRO : Hid (∀ k, k ≠ g3 → (((((W1.setCell ⟨g3, t * 5, none⟩ (.int .i64 F)).setCell ⟨g3, t * 5 + 1, none⟩ (.int .i64 T)).setCell ⟨g3, t * 5 + 2, none⟩ (.bool Wr)).setCell ⟨g3, t * 5 + 3, none⟩ (.int .i64 V)).setCell ⟨g3, t * 5 + 4, none⟩ (.int .i64 t)).heap[k]? = W1.heap[k]?) := Lib.hid (fun k hk => by
                      rw [heap_setCell_other _ _ _ _ hk, heap_setCell_other _ _ _ _ hk, heap_setCell_other _ _ _ _ hk, heap_setCell_other _ _ _ _ hk, heap_setCell_other _ _ _ _ hk])
                    have HRV : Hid (Up w (((((W1.setCell ⟨g3, t * 5, none⟩ (.int .i64 F)).setCell ⟨g3, t * 5 + 1, none⟩ (.int .i64 T)).setCell ⟨g3, t * 5 + 2, none⟩ (.bool Wr)).setCell ⟨g3, t * 5 + 3, none⟩ (.int .i64 V)).setCell ⟨g3, t * 5 + 4, none⟩ (.int .i64 t))) := Lib.hid (by
                      have hle : w.heap.size ≤ g3 := by rw [HG3.out]; exact Nat.le_refl _
                      exact Below.setCell (Below.setCell (Below.setCell (Below.setCell (Below.setCell HV1.out hle _) hle _) hle _) hle _) hle _)
                    clear p0 p1 p2 p3 p4 z0 z1 z2 z3 z4
                    generalize ((((W1.setCell ⟨g3, t * 5, none⟩ (.int .i64 F)).setCell ⟨g3, t * 5 + 1, none⟩ (.int .i64 T)).setCell ⟨g3, t * 5 + 2, none⟩ (.bool Wr)).setCell ⟨g3, t * 5 + 3, none⟩ (.int .i64 V)).setCell ⟨g3, t * 5 + 4, none⟩ (.int .i64 t) = W2 at *
                    refine hK.out _ _ (HSK.out _ ((HRO.out ob (by have := HOB.out; omega)).trans HO1.out)) (fun hS2 => ?_)
                    clear hK K
                    try simp only [Act.put, List.setIfInBounds_toArray, List.set_cons_zero, List.set_cons_succ]
                    refine wpAnyH_done (by kernel_rfl) ?_ _
                    try simp only [Act.put, List.setIfInBounds_toArray, List.set_cons_zero, List.set_cons_succ, List.getElem_toArray, List.getElem_cons_succ, List.getElem_cons_zero]
                    clear hS0 hS1 hS2
                    have hgg := HG3.out
                    subst hgg
                    go_wp2_with fail
                    go_roundw
                    case rel => exact ⟨j + 1, bs.set t true, os.set t ⟨F, T, Wr, V, t⟩, by omega, by go_num, by rw [HFJ.out], HRL.out, (HRO.out (w.heap.size + 1) (by omega)).trans HW1.out, HL2, HYJ, HRV⟩
                    case measure => simp [intOf]; omega
    · obtain rfl : j = l.length := by omega
      clear hlt
      have HN := Lib.hid (HYE.out HK.out)
      go_wp2_with fail
      go_ret
      exact ⟨by rw [HN.out]; rfl, HV.out⟩

end Go.Proofs.YtpefcbmmbpcalaaDoor
