/-
  order.Longest.
-/
import Derived.Test.YtpefcbmmbpcalaaDoorLongP
import Derived.Test.YtpefcbmmbpcalaaDoorNext
import Derived.Test.YtpefcbmmbpcalaaDoorStill
import Derived.Deep.DeepCutAuto
import Derived.Deep.OwnRows
set_option linter.unusedVariables false
set_option linter.unusedSimpArgs false
namespace Go.Proofs.YtpefcbmmbpcalaaDoor
open Go.RowKit

/-- The row of lengths: those below i are reckoned, i stands at v. -/
def upd (E : Nat → Nat) (n i v : Nat) : List Nat := (List.range n).map fun q => if q < i then E q else if q = i then v else 0
theorem upd_len (E : Nat → Nat) (n i v : Nat) : (upd E n i v).length = n := by unfold upd; simp
theorem upd_at (E : Nat → Nat) {n i v q : Nat} (hq : q < n) : (upd E n i v)[q]? = some (if q < i then E q else if q = i then v else 0) := by
  unfold upd
  rw [List.getElem?_map, List.getElem?_range hq]; rfl
theorem upd_set (E : Nat → Nat) {n i v u : Nat} (hi : i < n) : (upd E n i v).set i u = upd E n i u := by
  apply List.ext_getElem?
  intro q
  by_cases hq : q < n
  · rw [List.getElem?_set, upd_len, upd_at E hq, upd_at E hq]
    by_cases e : i = q
    · subst e; rw [if_pos rfl, if_pos hi, if_neg (by omega), if_pos rfl]
    · rw [if_neg e]
      by_cases h : q < i
      · rw [if_pos h, if_pos h]
      · rw [if_neg h, if_neg h, if_neg (fun h => e h.symm), if_neg (fun h => e h.symm)]
  · rw [List.getElem?_eq_none (by rw [List.length_set, upd_len]; omega), List.getElem?_eq_none (by rw [upd_len]; omega)]
theorem upd_next (E : Nat → Nat) (n i : Nat) : upd E n i (E i) = upd E n (i + 1) 0 := by
  unfold upd
  apply List.map_congr_left
  intro q _
  by_cases h : q < i
  · rw [if_pos h, if_pos (by omega)]
  · rw [if_neg h]
    by_cases e : q = i
    · subst e; rw [if_pos rfl, if_pos (by omega)]
    · rw [if_neg e, if_neg (by omega)]; split <;> rfl
theorem upd_zero (E : Nat → Nat) (n : Nat) : upd E n 0 0 = List.replicate n 0 := by
  unfold upd
  apply List.ext_getElem?
  intro q
  rw [List.getElem?_map]
  by_cases hq : q < n
  · rw [List.getElem?_range hq, List.getElem?_replicate, if_pos hq]; simp
  · rw [List.getElem?_eq_none (by simp; omega), List.getElem?_replicate, if_neg hq]; rfl
theorem made_ncells (n : Nat) : madeCells #[Value.int .i64 0] n = (ncells (List.replicate n 0)).toArray := by
  unfold ncells
  apply Array.ext
  · simp [madeCells]
  · intro i h1 h2
    have hi : i < n := by simp [madeCells] at h1; exact h1
    have := made_at (.int .i64 0) n i hi
    rw [Array.getElem?_eq_getElem h1] at this
    rw [Option.some.inj this]
    simp
def RowN (w : World) (g : Nat) (L : List Nat) : Prop := w.heap[g]? = some (.cells (ncells L).toArray 3 (0, 0))
theorem RowN.cell {w : World} {g : Nat} {L : List Nat} (h : RowN w g L) {q v : Nat} (hv : L[q]? = some v) : w.cell? ⟨g, q, none⟩ = some (.int .i64 (v : Int)) := by
  refine (cell_of_row _ _ q _ _ _ h).trans ?_
  unfold ncells
  rw [List.getElem?_toArray, List.getElem?_map, hv]; rfl
theorem RowN.up {w w' : World} {g : Nat} {L : List Nat} (h : RowN w g L) (u : Up w w') : RowN w' g L := (u.block _ (Array.getElem?_eq_some_iff.1 h).1).trans h
theorem RowN.frozen {w : World} {g : Nat} {L : List Nat} (h : RowN w g L) (q : Nat) : w.frozen? ⟨g, q, none⟩ = false := by simp [World.frozen?, show w.heap[g]? = _ from h]
theorem RowN.set {w : World} {g : Nat} {L : List Nat} (h : RowN w g L) (q v : Nat) : RowN (w.setCell ⟨g, q, none⟩ (.int .i64 (v : Int))) g (L.set q v) := by
  unfold RowN
  rw [heap_setCell_same w g q _ _ _ h]
  unfold ncells
  simp [List.map_set]

set_option maxRecDepth 10000 in
set_option maxHeartbeats 4000000 in
theorem olong_any (l : List OpD) (A : Option Addr) (c : Nat) (w : World) (hL : l.length ≤ 1000000) (hr : OpRow w A l) :
    Calls Tryd.prog 17 #[.slice A l.length c] w fun e w' => e = .returned (.int .i64 ((maxK (endL l) l.length : Nat) : Int)) ∧ Up w w' := by
  have HR := Lib.hid hr
  have hli : (l.length : Int) ≤ 1000000 := by omega
  have HM : Hid (∀ k, maxK (endL l) (k + 1) = max (maxK (endL l) k) (endL l k)) := Lib.hid (fun _ => rfl)
  have HEI := Lib.hid (endL_is l)
  have HEL := Lib.hid (fun k (h : k < l.length) => endL_le (l := l) h)
  have HEM : Hid (∀ i k, endM l (endL l) i (k + 1) = if ahI l k i then max (endM l (endL l) i k) (endL l k) else endM l (endL l) i k) := Lib.hid (fun _ _ => rfl)
  have HB := Lib.hid (fun k (h : k ≤ l.length) => maxK_le (f := endL l) (b := l.length) k (fun q hq => Nat.le_trans (endL_le (by omega)) (by omega)))
  have HEB : Hid (∀ i k, i < l.length → k ≤ i → endM l (endL l) i k ≤ l.length) := Lib.hid (fun i k hi hk => by
    rcases endM_ex (l := l) (f := endL l) (i := i) k with h | ⟨p, h1, h2, h3⟩
    · omega
    · rw [h3]; exact Nat.le_trans (endL_le (by omega)) (by omega))
  have HR0 : Hid (RowN (w.alloc (.cells (madeCells #[.int .i64 0] l.length) 3)) w.heap.size (upd (endL l) l.length 0 0)) := Lib.hid (by
    unfold RowN
    rw [upd_zero, ← made_ncells]
    exact heap_alloc_new w _)
  have HU0 := Lib.hid ((Up.refl w).alloc (.cells (madeCells #[.int .i64 0] l.length) 3))
  have hmk : ∀ W : World, (Instr.makeSlice 24 (.int .i64 (l.length : Int)) (.int .i64 (l.length : Int))).run Tryd.prog W = .ok (.slice (some ⟨W.heap.size, 0, none⟩) l.length l.length) (W.alloc (.cells (madeCells #[.int .i64 0] l.length) 3)) := fun W =>
    run_make_row' 24 3 (.int .i64 0) 8 Tryd.underlying24 (by kernel_rfl) rfl .i64 .i64 l.length (by omega) (by omega) W
  clear hr hL
  generalize hE : endL l = E at *
  clear hE
  go_enter Tryd.func17, Tryd.ntmps17
  go_wp2_with fail
  go_loopw [3, 12] (fun m x wr => ∃ i : Nat, i ≤ l.length ∧ x = .int .i64 i ∧ m = .int .i64 (maxK E i : Nat) ∧ Hid (RowN wr w.heap.size (upd E l.length i 0)) ∧ Hid (Up w wr)) (fun _ x _ => l.length - (intOf x).toNat)
  case atStart => exact ⟨0, by omega, rfl, rfl, HR0, HU0⟩
  case round =>
    obtain ⟨i, hi, rfl, rfl, HRN, HV⟩ := hrel
    by_cases hlt : i < l.length
    · have hii : (i : Int) < l.length := by omega
      have hi0 : (0 : Int) ≤ i := by omega
      have HIL := Lib.hid hlt
      go_wp2_with fail
      go_loopw [16] (fun x wq => ∃ j : Nat, j ≤ i ∧ x = .int .i64 j ∧ Hid (RowN wq w.heap.size (upd E l.length i (endM l E i j))) ∧ Hid (Up w wq)) (fun x _ => i - (intOf x).toNat)
      case atStart => exact ⟨0, by omega, rfl, HRN, HV⟩
      case round =>
        obtain ⟨j, hj, rfl, HRQ, HVQ⟩ := hrel
        by_cases hlj : j < i
        · have hji : (j : Int) < i := by omega
          have hjl : (j : Int) < l.length := by omega
          have hj0 : (0 : Int) ≤ j := by omega
          obtain ⟨bi, offi, eA, p0, p1, p2, p3, p4⟩ := HR.out.up HVQ.out i hlt
          subst eA
          obtain ⟨bk, offk, eB, q0, q1, q2, q3, q4⟩ := HR.out.up HVQ.out j (by omega)
          cases eB
          have HAH := Lib.hid (fun W => ahead_any (l.getD j op0) (l.getD i op0) W)
          rw [show aheadB (l.getD j op0) (l.getD i op0) = ahI l j i from rfl] at HAH
          have HST := Lib.hid (HEM.out i j)
          have HCI : Hid ((upd E l.length i (endM l E i j))[i]? = some (endM l E i j)) := Lib.hid (by rw [upd_at E hlt, if_neg (Nat.lt_irrefl _), if_pos rfl])
          have HCJ : Hid ((upd E l.length i (endM l E i j))[j]? = some (E j)) := Lib.hid (by rw [upd_at E (by omega), if_pos hlj])
          have c0 := upCell p0
          have c1 := upCell p1
          have c2 := upCell p2
          have c3 := upCell p3
          have c4 := upCell p4
          have d0 := upCell q0
          have d1 := upCell q1
          have d2 := upCell q2
          have d3 := upCell q3
          have d4 := upCell q4
          have HJ := Lib.hid hlj
          clear p0 p1 p2 p3 p4 q0 q1 q2 q3 q4 hlj
          generalize ahI l j i = ah at *
          generalize l.getD i op0 = x at *
          generalize l.getD j op0 = y at *
          obtain ⟨PF, PT, PW, PV, PH⟩ := x
          obtain ⟨QF, QT, QW, QV, QH⟩ := y
          unfold oagg at HAH
          dsimp only at HAH c0 c1 c2 c3 c4 d0 d1 d2 d3 d4
          cases ah
          · have HE : Hid (endM l E i (j + 1) = endM l E i j) := Lib.hid HST.out
            clear HST HCI HCJ
            go_wp2_with fail
            refine wp_region_up (w0 := wr) (by kernel_rfl) (by kernel_rfl) (Up.refl _) ?_
            repeat (go_big_quiet_step ((go_at_call 32; with_reducible exact callAbove HAH.out _)))
            refine wpQuiet_nil ?_
            rintro wz ⟨⟨wy, huy⟩, hwy⟩
            have huz : Up wr wz := by rw [hwy]; exact huy
            clear hwy huy
            go_wp2_with fail
            go_roundw
            case rel => exact ⟨j + 1, HJ.out, by go_num, Lib.hid (by rw [HE.out]; exact HRQ.out.up huz), Lib.hid (HVQ.out.trans huz)⟩
            case measure => simp [intOf]; omega
          · have HE : Hid (endM l E i (j + 1) = max (endM l E i j) (E j)) := Lib.hid HST.out
            clear HST
            go_wp2_with fail
            refine wp_region_up (w0 := wr) (by kernel_rfl) (by kernel_rfl) (Up.refl _) ?_
            repeat (go_big_quiet_step ((go_at_call 32; with_reducible exact callAbove HAH.out _)))
            refine wpQuiet_nil ?_
            rintro wz ⟨⟨wy, huy⟩, hwy⟩
            have huz : Up wr wz := by rw [hwy]; exact huy
            clear hwy huy
            have HR1 := Lib.hid (HRQ.out.up huz)
            have HV1 := Lib.hid (HVQ.out.trans huz)
            have e0 := HR1.out.cell HCI.out
            have e1 := HR1.out.cell HCJ.out
            have e2 := HR1.out.frozen i
            have e3 := HR1.out.frozen j
            clear HRQ HVQ huz c0 c1 c2 c3 c4 d0 d1 d2 d3 d4
            generalize endM l E i j = em at *
            generalize hen : endM l E i (j + 1) = en at *
            have HEN := Lib.hid hen
            clear hen
            have HMX : Hid ((if em < E j then (E j : Int) else (em : Int)) = (en : Int)) := Lib.hid (by rw [HE.out]; split <;> omega)
            go_wp2_with fail
            go_region
            rw [HMX.out]
            go_wp2_with fail
            go_roundw
            case rel => exact ⟨j + 1, HJ.out, by go_num, Lib.hid (by have := HR1.out.set i en; rw [upd_set E hlt] at this; rw [HEN.out]; exact this), Lib.hid (Up.drew (Below.setCell HV1.out (p := ⟨w.heap.size, i, none⟩) (Nat.le_refl _) _))⟩
            case measure => simp [intOf]; omega
        · obtain rfl : j = i := by omega
          clear hlj
          have HCI : Hid ((upd E l.length j (endM l E j j))[j]? = some (endM l E j j)) := Lib.hid (by rw [upd_at E hlt, if_neg (Nat.lt_irrefl _), if_pos rfl])
          have e0 := HRQ.out.cell HCI.out
          have e1 := HRQ.out.frozen j
          have HEJ := Lib.hid (HEI.out j)
          have HEL1 := Lib.hid (HEL.out j hlt)
          have hel := HEL1.out
          have hej := HEJ.out
          have HSET := Lib.hid (HRQ.out.set j (E j))
          rw [upd_set E hlt, upd_next] at HSET
          generalize endM l E j j = em at *
          have hw1 : (em : Int) + 1 = (E j : Int) := by omega
          have e2 := HSET.out.cell (q := j) (v := E j) (by rw [upd_at E hlt, if_pos (by omega)])
          have HMS := Lib.hid (HM.out j)
          have HMX : Hid ((if maxK E j < E j then (E j : Int) else ((maxK E j : Nat) : Int)) = ((maxK E (j + 1) : Nat) : Int)) := Lib.hid (by rw [HMS.out]; split <;> omega)
          have hw2 : (E j : Int) ≤ 1000001 := by omega
          clear HEL1 HEJ hej hel
          have HV2 := Lib.hid (Below.setCell HVQ.out (Nat.le_refl _) (p := ⟨w.heap.size, j, none⟩) (.int .i64 (E j : Int)))
          clear HEI HRQ HVQ
          generalize hmk1 : maxK E (j + 1) = mk at *
          have HMK1 := Lib.hid hmk1
          clear hmk1 HMS
          generalize maxK E j = m0 at *
          generalize E j = ej at *
          go_wp2_with fail
          go_roundw
          case rel => exact ⟨j + 1, HIL.out, by go_num, by rw [HMK1.out, ← HMX.out], HSET, HV2⟩
          case measure => simp [intOf]; omega
    · obtain rfl : i = l.length := by omega
      clear hlt
      go_wp2_with fail
      go_ret
      exact ⟨rfl, HV.out⟩

end Go.Proofs.YtpefcbmmbpcalaaDoor
