/-
  Chapter 20's alive; the numbers of a row as integers.
-/
import Derived.Test.YtpefcbmmbpcalaaDoorONext
import Derived.Test.YtpefcbmmbpcalaaDoorResp
import Derived.Test.YtpefcbmmbpcalaaDoorOver
import Derived.Test.YtpefcbmmbpcalaaDoorOLong
import Derived.Test.YtpefcbmmbpcalaaDoorIntsH
set_option linter.unusedVariables false
set_option linter.unusedSimpArgs false
namespace Go.Proofs.YtpefcbmmbpcalaaDoor
open Go.RowKit

def iL (L : List Nat) : List Int := L.map fun (n : Nat) => (n : Int)
theorem iL_len (L : List Nat) : (iL L).length = L.length := by simp [iL]
theorem iL_inj {L M : List Nat} : iL L = iL M ↔ L = M := by
  constructor
  · intro h
    unfold iL at h
    induction L generalizing M with
    | nil => cases M with
      | nil => rfl
      | cons b M => simp at h
    | cons a L ih => cases M with
      | nil => simp at h
      | cons b M =>
        simp only [List.map_cons, List.cons.injEq] at h
        rw [Int.ofNat.inj h.1, ih h.2]
  · rintro rfl; rfl
theorem iL_get (L : List Nat) (j : Nat) : (iL L).getD j 0 = ((L.getD j 0 : Nat) : Int) := by
  unfold iL
  rw [List.getD_eq_getElem?_getD, List.getD_eq_getElem?_getD, List.getElem?_map]
  cases L[j]? <;> rfl
theorem n_row {w : World} {B : Nat} {v : Value} {L : List Nat} (h : OwnN w B v L) : ∃ A cc, v = .slice A (iL L).length cc ∧ Row w A (iL L).length (IVal (iL L)) := by
  rcases h.2 with ⟨hv, hn⟩ | ⟨g, cap, cur, hv, hg, hh, hr⟩
  · have : L = [] := List.eq_nil_of_length_eq_zero hn
    subst this
    exact ⟨none, 0, hv, fun k hk => absurd hk (Nat.not_lt_zero k)⟩
  · rw [iL_len]
    refine ⟨some ⟨g, 0, none⟩, cap, hv, fun k hk => ⟨g, 0, rfl, ?_⟩⟩
    rw [Nat.zero_add]
    have hu : (ncells L)[k]? = some (.int .i64 ((L.getD k 0 : Nat) : Int)) := by
      unfold ncells
      rw [List.getElem?_map, List.getElem?_eq_getElem hk]
      show some _ = some _
      congr 2
      rw [List.getD_eq_getElem?_getD, List.getElem?_eq_getElem hk]; rfl
    have := h.cells (g := g) (by rw [hv]; rfl) k _ hu
    rw [show (⟨g, k, none⟩ : Addr) = (⟨g, 0, none⟩ : Addr).add k by simp [Addr.add], this]
    unfold IVal
    rw [iL_get]
theorem oprow_lit (w : World) (l : List OpD) (e : TypeId) : OpRow (w.alloc (.cells (ocells l).toArray e)) (some ⟨w.heap.size, 0, none⟩) l := fun k hk =>
  ⟨w.heap.size, 0, rfl, by rw [Nat.zero_add]; exact opAt_block (heap_alloc_new w _) (fun j hj => ocells_at l k hk j hj)⟩
def l20 : List OpD := [⟨0, 5, false, 0, 0⟩, ⟨1, 2, false, 0, 1⟩, ⟨7, -1, false, 0, 1⟩]
theorem al20 : fineP l20 = true ∧ nextL l20 0 = [0, 1] ∧ nextL l20 3 = [2] ∧ respP l20 [1, 0] = true ∧ respP l20 [2, 0, 1] = false ∧ respP l20 [0] = false ∧ overL l20 = 3 ∧ maxK (endL l20) 3 = 2 := by decide

set_option maxRecDepth 10000 in
set_option maxHeartbeats 1000000 in
theorem alive20_any (w : World) (hT : TabT w) : Calls Tryd.prog 9 #[] w fun e w' => e = .returned (.bool true) ∧ Up w w' := by
  obtain ⟨q0, q1, q2, q3, q4, q5, q6, q7⟩ := al20
  have HN1 := Lib.hid (fun A c W h t => onext_any l20 A c 0 W (by decide) (by decide) q0 h t)
  have HN2 := Lib.hid (fun A c W h t => onext_any l20 A c 3 W (by decide) (by decide) q0 h t)
  have HR1 := Lib.hid (fun A c B d W h k g1 g2 g3 => respects_any l20 [1, 0] A B c d W (by decide) (by decide) g1 g2 h k g3)
  have HR2 := Lib.hid (fun A c B d W h k g1 g2 g3 => respects_any l20 [2, 0, 1] A B c d W (by decide) (by decide) g1 g2 h k g3)
  have HR3 := Lib.hid (fun A c B d W h k g1 g2 g3 => respects_any l20 [0] A B c d W (by decide) (by decide) g1 g2 h k g3)
  have HO := Lib.hid (fun A c W h => over_any l20 A c W (by decide) h)
  have HL := Lib.hid (fun A c W h => olong_any l20 A c W (by decide) h)
  rw [show l20.length = 3 from rfl] at HN1 HN2 HR1 HR2 HR3 HO HL
  rw [q1] at HN1
  rw [q2] at HN2
  rw [q3] at HR1
  rw [q4] at HR2
  rw [q5] at HR3
  rw [q6] at HO
  rw [q7] at HL
  have hr := oprow_lit w l20 28
  have HU := Lib.hid ((Up.refl w).alloc (.cells (ocells l20).toArray 28))
  have HT := Lib.hid (hT.up HU.out)
  have HR := Lib.hid hr
  rw [show (ocells l20).toArray = #[.int .i64 0, .int .i64 5, .bool false, .int .i64 0, .int .i64 0, .int .i64 1, .int .i64 2, .bool false, .int .i64 0, .int .i64 1, .int .i64 7, .int .i64 (-1), .bool false, .int .i64 0, .int .i64 1] from rfl] at HR HT HU
  clear q0 q1 q2 q3 q4 q5 q6 q7 hr hT
  go_enter Tryd.func9, Tryd.ntmps9
  go_wp2_with fail
  refine (HN1.out _ 3 _ HR.out HT.out).mono ?_
  rintro e w1 ⟨v, rfl, ho1, hu1⟩
  obtain ⟨A1, c1, rfl, hr1⟩ := n_row ho1
  rw [show iL [0, 1] = [0, 1] from rfl] at hr1 ⊢
  have HS1 := Lib.hid hu1
  have HA1 := Lib.hid ((Up.refl w1).alloc (.cells #[.int .i64 0, .int .i64 1] 3))
  have HI1 := Lib.hid (ints_any [0, 1] [0, 1] A1 (some ⟨w1.heap.size, 0, none⟩) c1 2 (w1.alloc (.cells #[.int .i64 0, .int .i64 1] 3)) (by decide) (by decide) (hr1.up HA1.out) (row_lit w1 [0, 1] 3))
  generalize w.alloc (.cells #[.int .i64 0, .int .i64 5, .bool false, .int .i64 0, .int .i64 0, .int .i64 1, .int .i64 2, .bool false, .int .i64 0, .int .i64 1, .int .i64 7, .int .i64 (-1), .bool false, .int .i64 0, .int .i64 1] 28) = W0 at *
  clear ho1 hu1 hr1 HN1
  go_wp2_with fail
  refine HI1.out.mono ?_
  rintro e w2 ⟨rfl, hu2⟩
  have HS2 := Lib.hid (HS1.out.trans (HA1.out.trans hu2))
  clear hu2 HS1 HA1 HI1
  go_wp2_with fail
  refine (HN2.out _ 3 _ (HR.out.up HS2.out) (HT.out.up HS2.out)).mono ?_
  rintro e w3 ⟨v, rfl, ho3, hu3⟩
  obtain ⟨A3, c3, rfl, hr3⟩ := n_row ho3
  rw [show iL [2] = [2] from rfl] at hr3 ⊢
  have HS3 := Lib.hid (HS2.out.trans hu3)
  have HA3 := Lib.hid ((Up.refl w3).alloc (.cells #[.int .i64 2] 3))
  have HI3 := Lib.hid (ints_any [2] [2] A3 (some ⟨w3.heap.size, 0, none⟩) c3 1 (w3.alloc (.cells #[.int .i64 2] 3)) (by decide) (by decide) (hr3.up HA3.out) (row_lit w3 [2] 3))
  clear ho3 hu3 hr3 HN2 HS2
  go_wp2_with fail
  refine HI3.out.mono ?_
  rintro e w4 ⟨rfl, hu4⟩
  have HS4 := Lib.hid (HS3.out.trans (HA3.out.trans hu4))
  clear hu4 HS3 HA3 HI3
  go_wp2_with fail
  have HA4 := Lib.hid ((Up.refl w4).alloc (.cells #[.int .i64 1, .int .i64 0] 3))
  refine (HR1.out _ 3 (some ⟨w4.heap.size, 0, none⟩) 2 _ (HR.out.up (HS4.out.trans HA4.out)) (row_lit w4 [1, 0] 3) (Nat.le_refl _) (by decide) (fun h => by cases h)).mono ?_
  rintro e w5 ⟨rfl, hu5⟩
  have HS5 := Lib.hid (HS4.out.trans (HA4.out.trans hu5))
  clear hu5 HS4 HA4 HR1
  go_wp2_with fail
  have HA5 := Lib.hid ((Up.refl w5).alloc (.cells #[.int .i64 2, .int .i64 0, .int .i64 1] 3))
  refine (HR2.out _ 3 (some ⟨w5.heap.size, 0, none⟩) 3 _ (HR.out.up (HS5.out.trans HA5.out)) (row_lit w5 [2, 0, 1] 3) (Nat.le_refl _) (by decide) (fun h => by cases h)).mono ?_
  rintro e w6 ⟨rfl, hu6⟩
  have HS6 := Lib.hid (HS5.out.trans (HA5.out.trans hu6))
  clear hu6 HS5 HA5 HR2
  go_wp2_with fail
  have HA6 := Lib.hid ((Up.refl w6).alloc (.cells #[.int .i64 0] 3))
  refine (HR3.out _ 3 (some ⟨w6.heap.size, 0, none⟩) 1 _ (HR.out.up (HS6.out.trans HA6.out)) (row_lit w6 [0] 3) (Nat.le_refl _) (by decide) (fun h => by cases h)).mono ?_
  rintro e w7 ⟨rfl, hu7⟩
  have HS7 := Lib.hid (HS6.out.trans (HA6.out.trans hu7))
  clear hu7 HS6 HA6 HR3
  go_wp2_with fail
  refine (HO.out _ 3 _ (HR.out.up HS7.out)).mono ?_
  rintro e w8 ⟨rfl, hu8⟩
  have HS8 := Lib.hid (HS7.out.trans hu8)
  clear hu8 HS7 HO
  go_wp2_with fail
  refine (HL.out _ 3 _ (HR.out.up HS8.out)).mono ?_
  rintro e w9 ⟨rfl, hu9⟩
  have HS9 := Lib.hid (HU.out.trans (HS8.out.trans hu9))
  clear hu9 HS8 HL
  go_wp2_with fail
  go_ret
  exact ⟨rfl, HS9.out⟩
end Go.Proofs.YtpefcbmmbpcalaaDoor
