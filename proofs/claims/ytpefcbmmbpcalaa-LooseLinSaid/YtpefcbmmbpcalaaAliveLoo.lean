/-
  Chapter 22's alive.
-/
import Derived.Test.YtpefcbmmbpcalaaSeesW
import Derived.Test.YtpefcbmmbpcalaaLooD
import Derived.Test.YtpefcbmmbpcalaaIntsH
import Derived.Laws.OwnMore
import Derived.ArgAppend
set_option linter.unusedVariables false
set_option linter.unusedSimpArgs false
namespace Go.Proofs.Ytpefcbmmbpcalaa
open Go.RowKit

def aW : OpD := ⟨0, 5, true, 1, 0⟩
def aR : OpD := ⟨2, 3, false, 3, 1⟩
def aV : OpD := ⟨7, 8, true, 1, 2⟩
theorem al1 : (faultP [aW, aR] == 0 && regularP [aW, aR] 0) = false ∧ faultP [aW, aR] = 0 := by decide
theorem al2 : (faultP [aW, aR] == 0 && (decide ((0 : Int) ≤ 3) && safeP [aW, aR] 0 3)) = true ∧ (if faultP [aW, aR] = 0 then (if (3 : Int) < 0 then 6 else 0) else faultP [aW, aR] : Int) = 0 := by decide
theorem al3 : (faultP [aW, aR] == 0 && (decide ((0 : Int) ≤ -1) && safeP [aW, aR] 0 (-1))) = false ∧ (if faultP [aW, aR] = 0 then (if (-1 : Int) < 0 then 6 else 0) else faultP [aW, aR] : Int) = 6 := by decide
theorem al4 : (faultP [aW, aR, aV] == 0 && regularP [aW, aR, aV] 0) = false ∧ faultP [aW, aR, aV] = 9 := by decide
theorem al5 : seenL (onlyL [aW, aR] true) 0 ([aW, aR].getD 1 op0) = [0, 1] := by decide

/-- What alive lays: the write in a box, both in a slice. -/
theorem alive22_lays (w : World) : ∃ W, W = (((w.alloc (.cells #[.int .i64 0, .int .i64 5, .bool true, .int .i64 1, .int .i64 0] 24)).alloc (.cells #[.int .i64 2, .int .i64 3, .bool false, .int .i64 3, .int .i64 1] 24)).alloc (.cells #[.int .i64 0, .int .i64 5, .bool true, .int .i64 1, .int .i64 0, .int .i64 2, .int .i64 3, .bool false, .int .i64 3, .int .i64 1] 24)) ∧ W.heap[w.heap.size]? = some (.cells #[.int .i64 0, .int .i64 5, .bool true, .int .i64 1, .int .i64 0] 24 (0, 0)) ∧
    OwnO W (w.heap.size + 1) (.slice (some ⟨w.heap.size + 1 + 1, 0, none⟩) 2 2) [aW, aR] ∧ OpRow W (some ⟨w.heap.size + 1 + 1, 0, none⟩) [aW, aR] ∧ Up w W := by
  refine ⟨_, rfl, ?_, ?_, ?_, (((Up.refl w).alloc _).alloc _).alloc _⟩
  · have h := (heap_two w (.cells #[.int .i64 0, .int .i64 5, .bool true, .int .i64 1, .int .i64 0] 24) (.cells #[.int .i64 2, .int .i64 3, .bool false, .int .i64 3, .int .i64 1] 24)).1
    exact (heap_alloc_old _ _ (Array.getElem?_eq_some_iff.1 h).1).trans h
  all_goals
    have h := World.ownsRow_lit (base := w.heap.size + 1) (e := 24) (size := 5) ((w.alloc (.cells #[.int .i64 0, .int .i64 5, .bool true, .int .i64 1, .int .i64 0] 24)).alloc (.cells #[.int .i64 2, .int .i64 3, .bool false, .int .i64 3, .int .i64 1] 24)) #[.int .i64 0, .int .i64 5, .bool true, .int .i64 1, .int .i64 0, .int .i64 2, .int .i64 3, .bool false, .int .i64 3, .int .i64 1] 2 (by simp) (by decide) rfl
    have e : ((w.alloc (.cells #[.int .i64 0, .int .i64 5, .bool true, .int .i64 1, .int .i64 0] 24)).alloc (.cells #[.int .i64 2, .int .i64 3, .bool false, .int .i64 3, .int .i64 1] 24)).heap.size = w.heap.size + 1 + 1 := by simp
    rw [e] at h
  · exact h
  · obtain ⟨A, cc, e1, hr⟩ := OwnO.row (l := [aW, aR]) h
    injection e1 with e1 e2 e3
    rw [e1]
    exact hr
theorem alive22_sets {w : World} {b : Nat} (h : w.heap[b]? = some (.cells #[.int .i64 0, .int .i64 5, .bool true, .int .i64 1, .int .i64 0] 24 (0, 0))) :
    (((w.setCell ⟨b, 4, none⟩ (.int .i64 2)).setCell ⟨b, 0, none⟩ (.int .i64 7)).setCell ⟨b, 1, none⟩ (.int .i64 8)).heap[b]? = some (.cells #[.int .i64 7, .int .i64 8, .bool true, .int .i64 1, .int .i64 2] 24 (0, 0)) ∧
    w.grownBy (((w.setCell ⟨b, 4, none⟩ (.int .i64 2)).setCell ⟨b, 0, none⟩ (.int .i64 7)).setCell ⟨b, 1, none⟩ (.int .i64 8)) (some b) := by
  refine ⟨by rw [heap_setCell_same _ b _ _ _ _ (heap_setCell_same _ b _ _ _ _ (heap_setCell_same _ b _ _ _ _ h))]; rfl, rfl, rfl, rfl, by simp [World.setCell], fun k hk hne => ?_⟩
  have hkb : k ≠ b := fun e => hne (by rw [e])
  rw [heap_setCell_other _ _ _ _ hkb, heap_setCell_other _ _ _ _ hkb, heap_setCell_other _ _ _ _ hkb]

set_option maxRecDepth 10000 in
set_option maxHeartbeats 2000000 in
theorem alive22_any (w : World) : Calls Try.prog 13 #[] w fun e w' => e = .returned (.bool true) ∧ Up w w' := by
  have HR1 := Lib.hid (fun A c W h => regular_any [aW, aR] A c 0 W (by decide) h)
  have HS1 := Lib.hid (fun A c W h => safe_any [aW, aR] A c 0 3 W (by decide) h)
  have HS2 := Lib.hid (fun A c W h => safe_any [aW, aR] A c 0 (-1) W (by decide) h)
  have HR2 := Lib.hid (fun A c W h => regular_any [aW, aR, aV] A c 0 W (by decide) h)
  have HSE := Lib.hid (fun A c W h => sees_any [aW, aR] A c 1 0 W (by decide) h (by decide) rfl al1.2)
  rw [al1.1, al1.2] at HR1
  rw [al2.1, al2.2] at HS1
  rw [al3.1, al3.2] at HS2
  rw [al4.1, al4.2] at HR2
  rw [al5] at HSE
  go_enter Try.func13, Try.ntmps13
  obtain ⟨i0, hi, hz0, hz1, hz2⟩ := oparts infoOp
  have HI := Lib.hid hi
  have HZ0 := Lib.hid hz0
  have HZ1 := Lib.hid hz1
  have HZ2 := Lib.hid hz2
  clear hi hz0 hz1 hz2
  obtain ⟨W, hW, hbx, hown, hrow, hup⟩ := alive22_lays w
  have HBX := Lib.hid hbx
  have HOWN := Lib.hid hown
  have HROW := Lib.hid hrow
  have HUP := Lib.hid hup
  have HW := Lib.hid hW
  clear hbx hown hrow hup hW
  go_wp2_with fail
  rw [← HW.out]
  clear HW
  refine (HR1.out _ 2 _ HROW.out).mono ?_
  rintro e w1 ⟨rfl, hu1⟩
  have HU1 := Lib.hid hu1
  clear hu1
  go_wp2_with fail
  refine (HS1.out _ 2 _ (HROW.out.up HU1.out)).mono ?_
  rintro e w2 ⟨rfl, hu2⟩
  have HU2 := Lib.hid (HU1.out.trans hu2)
  clear hu2
  go_wp2_with fail
  refine (HS2.out _ 2 _ (HROW.out.up HU2.out)).mono ?_
  rintro e w3 ⟨rfl, hu3⟩
  have HU3 := Lib.hid (HU2.out.trans hu3)
  have HB3 := Lib.hid (box_up HBX.out HU3.out)
  have HST := Lib.hid (alive22_sets HB3.out)
  have HO3 := Lib.hid (own_up3 HOWN.out HU3.out)
  have hz : ∀ q, w3.frozen? ⟨w.heap.size, q, none⟩ = false := fun q => by simp [World.frozen?, HB3.out]
  have z0 := hz 0
  have z1 := hz 1
  have z4 := hz 4
  obtain ⟨x0, x1, x2, x3, x4⟩ := box_cells HB3.out
  clear hu3 hz
  go_upto_region 9 with fail
  have HU9 := Lib.hid (show Up w _ from Below.grown (Below.trans HUP.out (Below.mono HU3.out HUP.out.size)) HST.out.2 (Nat.le_trans HUP.out.size HU3.out.size) (fun k hk => by injection hk with hk; omega))
  have HO9 := Lib.hid (World.ownsRow.kept HO3.out HST.out.2 (.inr (fun e => absurd (Option.some.inj e) (by show ¬ (w.heap.size + 1 + 1 = w.heap.size); omega))))
  have HB9 := Lib.hid HST.out.1
  have HG9 := Lib.hid HST.out.2.size
  clear HST x0 x1 x2 x3 x4 z0 z1 z4
  generalize ((w3.setCell ⟨w.heap.size, 4, none⟩ (.int .i64 2)).setCell ⟨w.heap.size, 0, none⟩ (.int .i64 7)).setCell ⟨w.heap.size, 1, none⟩ (.int .i64 8) = w9 at *
  obtain ⟨x0, x1, x2, x3, x4⟩ := box_cells HB9.out
  have HSZ9 : Hid (w.heap.size + 1 ≤ w9.heap.size) := Lib.hid (Array.getElem?_eq_some_iff.1 HB9.out).1
  have HOA := Lib.hid (fun j u hu => ((World.ownsRow.alloc HO9.out (.cells #[.int .i64 7, .int .i64 8, .bool true, .int .i64 1, .int .i64 2] 24)).cells (g := w.heap.size + 1 + 1) rfl j u hu))
  have HUA := Lib.hid ((Up.refl w9).alloc (.cells #[.int .i64 7, .int .i64 8, .bool true, .int .i64 1, .int .i64 2] 24))
  go_wp2_with (at_builtin; refine wpList_append_grows _ rfl (.tmp 36) (.tmp 38) 22 rfl 24 i0 (.agg #[.int .i64 0, .int .i64 0, .bool false, .int .i64 0, .int .i64 0]) 5 40 Try.underlying22 HI.out HZ0.out HZ1.out HZ2.out rfl (by decide) (some ⟨w.heap.size + 1 + 1, 0, none⟩) 2 2 (ocells [aW, aR]) rfl (fun h => by cases h) rfl (fun b hb j u hu => by cases hb; exact HOA.out j u hu) ⟨w9.heap.size, 0, none⟩ 1 1 [.int .i64 7, .int .i64 8, .bool true, .int .i64 1, .int .i64 2] rfl rfl (fun j u hu => cells_new w9 [.int .i64 7, .int .i64 8, .bool true, .int .i64 1, .int .i64 2] _ j u hu) (by simp [Value.oneCell']) (by decide) (by decide) (by decide) ?_; intro v' w10 hown10 hg10; obtain ⟨A10, c10, rfl, hrow10⟩ := OwnO.row (l := [aW, aR, aV]) hown10; have HROW10 := Lib.hid hrow10; have HU10 := Lib.hid (show Up w9 w10 from HUA.out.trans ⟨hg10.os, hg10.tape, hg10.output, hg10.size, fun k hk => hg10.block k hk (by simp)⟩); clear hown10 hg10 hrow10)
  refine (HR2.out _ c10 _ HROW10.out).mono ?_
  rintro e w11 ⟨rfl, hu11⟩
  have HU11 := Lib.hid (HU10.out.trans hu11)
  have HRW := Lib.hid (show OpRow w9 (some ⟨w.heap.size + 1 + 1, 0, none⟩) [aW, aR] from by
    obtain ⟨A, cc, e1, hr⟩ := OwnO.row (l := [aW, aR]) HO9.out
    injection e1 with e1 e2 e3
    rw [e1]
    exact hr)
  clear hu11 x0 x1 x2 x3 x4
  go_wp2_with fail
  refine (HSE.out _ 2 _ (HRW.out.up HU11.out)).mono ?_
  rintro e w12 ⟨v, rfl, hz, hu12⟩
  obtain ⟨A12, c12, rfl, hrow12⟩ := z_slice hz
  have HU12 := Lib.hid (HU11.out.trans hu12)
  have HU13 := Lib.hid ((Up.refl w12).alloc (.cells #[.int .i64 0, .int .i64 1] 3))
  have HIN := Lib.hid (ints_any [0, 1] [0, 1] A12 (some ⟨w12.heap.size, 0, none⟩) c12 2 (w12.alloc (.cells #[.int .i64 0, .int .i64 1] 3)) (by decide) (by decide) (hrow12.up HU13.out) (row_lit w12 [0, 1] 3))
  have HFU := Lib.hid (HU9.out.trans (HU12.out.trans HU13.out))
  clear hz hu12 hrow12
  go_wp2_with fail
  refine HIN.out.mono ?_
  rintro e w14 ⟨rfl, hu14⟩
  have HFX := Lib.hid (HFU.out.trans hu14)
  clear hu14
  go_wp2_with fail
  go_ret
  exact ⟨rfl, HFX.out⟩

end Go.Proofs.Ytpefcbmmbpcalaa
