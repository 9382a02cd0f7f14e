/-
  The chapter's example: alive of chapter 7.
-/
import Derived.Test.YtlclijnoablejaaDoorStaL
set_option linter.unusedVariables false
set_option linter.unusedSimpArgs false
namespace Go.Proofs.YtlclijnoablejaaDoor
open Go.RowKit

theorem heap_three (w : World) (a b c : Obj) : (((w.alloc a).alloc b).alloc c).heap[w.heap.size]? = some a ∧ (((w.alloc a).alloc b).alloc c).heap[w.heap.size + 1]? = some b ∧ (((w.alloc a).alloc b).alloc c).heap[w.heap.size + 1 + 1]? = some c := by
  have h1 : (w.alloc a).heap.size = w.heap.size + 1 := by simp
  have h2 : ((w.alloc a).alloc b).heap.size = w.heap.size + 1 + 1 := by simp
  have ha := heap_alloc_new w a
  have hb := heap_alloc_new (w.alloc a) b
  have hc := heap_alloc_new ((w.alloc a).alloc b) c
  rw [h1] at hb
  rw [h2] at hc
  have ha2 := (heap_alloc_old (w.alloc a) b (Array.getElem?_eq_some_iff.1 ha).1).trans ha
  exact ⟨(heap_alloc_old _ _ (Array.getElem?_eq_some_iff.1 ha2).1).trans ha2, (heap_alloc_old _ _ (Array.getElem?_eq_some_iff.1 hb).1).trans hb, hc⟩
theorem lit_board (w : World) : BRow (((w.alloc (.cells #[.int .i64 0] 3)).alloc (.cells #[.int .i64 2] 3)).alloc (.cells #[.slice (some ⟨w.heap.size, 0, none⟩) 1 1, .slice (some ⟨w.heap.size + 1, 0, none⟩) 1 1] 31)) (some ⟨w.heap.size + 1 + 1, 0, none⟩) [[0], [2]] := by
  obtain ⟨h1, h2, h3⟩ := heap_three w (.cells #[.int .i64 0] 3) (.cells #[.int .i64 2] 3) (.cells #[.slice (some ⟨w.heap.size, 0, none⟩) 1 1, .slice (some ⟨w.heap.size + 1, 0, none⟩) 1 1] 31)
  intro k hk
  have hk2 : k = 0 ∨ k = 1 := by simp at hk; omega
  rcases hk2 with rfl | rfl
  · exact ⟨_, 0, _, 1, rfl, cell_of_row _ _ 0 _ _ _ h3, ⟨fun i hi => ⟨_, 0, rfl, by
      obtain rfl : i = 0 := by simp at hi; omega
      exact cell_of_row _ _ 0 _ _ _ h1⟩, Nat.le_refl _, by decide, fun h => by cases h⟩⟩
  · exact ⟨_, 0, _, 1, rfl, cell_of_row _ _ 1 _ _ _ h3, ⟨fun i hi => ⟨_, 0, rfl, by
      obtain rfl : i = 0 := by simp at hi; omega
      exact cell_of_row _ _ 0 _ _ _ h2⟩, Nat.le_refl _, by decide, fun h => by cases h⟩⟩

theorem b0_is : newP 2 = [[0], [0]] := rfl
theorem b1_is : takeP [[0], [0]] 0 = [[1], [0]] := by decide
theorem b2_is : takeP [[1], [0]] 1 = [[1], [2]] := by decide
theorem b3_is : takeP [[1], [2]] 0 = [[0], [2]] := by decide
def Tup (n : Nat) (L : List (List Int)) (w : World) (e : Ending) (w' : World) : Prop := ∃ A c, e = .returned (.tuple #[.slice A n c, .int .i64 0]) ∧ BRow w' A L ∧ Up w w'
theorem new2 (w : World) : Calls Tryd.prog 7 #[.int .i64 2] w (Tup 2 [[0], [0]] w) := new_yes 2 w (by decide) (by decide)
theorem take2 (L L' : List (List Int)) (me : Nat) (hl : L.length = 2) (hf : fineBd L = true) (hm : me < 2) (hL : takeP L me = L') (A : Option Addr) (c : Nat) (w : World) (hr : Ring w) (hb : BRow w A L) :
    Calls Tryd.prog 12 #[.slice A 2 c, .int .i64 me] w (Tup 2 L' w) := by
  have h := take_yes L A c me w hr hb hf (by rw [hl]; exact hm)
  rw [hl, hL] at h
  exact h

set_option maxRecDepth 10000 in
set_option maxHeartbeats 2000000 in
theorem alive07_any (w : World) (hring : Ring w) : Calls Tryd.prog 6 #[] w fun e w' => e = .returned (.bool true) ∧ Up w w' := by
  have HG := Lib.hid hring
  have HT1 := Lib.hid (fun A c W (u : Up w W) => take2 [[0], [0]] [[1], [0]] 0 rfl (by decide) (by decide) b1_is A c W (hring.up u))
  have HT2 := Lib.hid (fun A c W (u : Up w W) => take2 [[1], [0]] [[1], [2]] 1 rfl (by decide) (by decide) b2_is A c W (hring.up u))
  have HT3 := Lib.hid (fun A c W (u : Up w W) => take2 [[1], [2]] [[0], [2]] 0 rfl (by decide) (by decide) b3_is A c W (hring.up u))
  have HT4 := Lib.hid (fun A c W (hb : BRow W A [[0], [0]]) => show Calls Tryd.prog 12 #[.slice A 2 c, .int .i64 2] W fun e w' => e = .returned (.tuple #[.slice none 0 0, .int .i64 6]) ∧ W = w' from take_no [[0], [0]] A c 2 W (by decide) hb (.inr (by decide)))
  have HL0 := Lib.hid (fun A c W (u : Up w W) (hb : BRow W A [[0], [0]]) => show Calls Tryd.prog 17 #[.slice A 2 c] W fun e w' => e = .returned (.int .i64 (-1)) ∧ Dr W w' from last_any [[0], [0]] A c W (hring.up u) (by decide) hb)
  have HL3 := Lib.hid (fun A c W (u : Up w W) (hb : BRow W A [[0], [2]]) => show Calls Tryd.prog 17 #[.slice A 2 c] W fun e w' => e = .returned (.int .i64 0) ∧ Dr W w' from last_any [[0], [2]] A c W (hring.up u) (by decide) hb)
  have HB3 := Lib.hid (fun A c W (u : Up w W) (hb : BRow W A [[0], [2]]) => show Calls Tryd.prog 18 #[.slice A 2 c, .int .i64 0, .int .i64 1] W fun e w' => e = .returned (.bool true) ∧ Dr W w' from behind_any [[0], [2]] A c 0 1 W (hring.up u) (by decide) hb)
  have HS3 := Lib.hid (fun A c B d W (ha : BRow W A [[0], [2]]) (hb : BRow W B [[0], [2]]) => show Calls Tryd.prog 20 #[.slice A 2 c, .slice B 2 d] W fun e w' => e = .returned (.bool true) ∧ Up W w' from same_any [[0], [2]] [[0], [2]] A B c d W (by decide) (by decide) ha hb)
  have HLB := Lib.hid (fun W => lit_board W)
  clear hring
  go_enter Tryd.func6, Tryd.ntmps6
  go_wp2_with fail
  refine (new2 _).mono ?_
  rintro e w1 ⟨A0, c0, rfl, hb0, hu1⟩
  have HB0 := Lib.hid hb0
  have HU1 := Lib.hid hu1
  clear hb0 hu1
  go_wp2_with fail
  refine (HT1.out _ _ _ HU1.out HB0.out).mono ?_
  rintro e w2 ⟨A1, c1, rfl, hb1, hu2⟩
  have HB1 := Lib.hid hb1
  have HU2 := Lib.hid (HU1.out.trans hu2)
  have HB02 := Lib.hid (HB0.out.up hu2)
  clear hb1 hu2
  go_wp2_with fail
  refine (HT2.out _ _ _ HU2.out HB1.out).mono ?_
  rintro e w3 ⟨A2, c2, rfl, hb2, hu3⟩
  have HB2 := Lib.hid hb2
  have HU3 := Lib.hid (HU2.out.trans hu3)
  have HB03 := Lib.hid (HB02.out.up hu3)
  clear hb2 hu3
  go_wp2_with fail
  refine (HT3.out _ _ _ HU3.out HB2.out).mono ?_
  rintro e w4 ⟨A3, c3, rfl, hb3, hu4⟩
  have HBH := Lib.hid hb3
  have HU4 := Lib.hid (HU3.out.trans hu4)
  have HB04 := Lib.hid (HB03.out.up hu4)
  clear hb3 hu4
  go_wp2_with fail
  refine (HT4.out _ _ _ HB04.out).mono ?_
  rintro e w5 ⟨rfl, rfl⟩
  go_wp2_with fail
  refine (new_no 0 _ (.inl (by decide))).mono ?_
  rintro e w5 ⟨rfl, rfl⟩
  go_wp2_with fail
  refine (HS3.out _ _ _ _ _ (HBH.out.up ((((Up.refl w4).alloc _).alloc _).alloc _)) (HLB.out w4)).mono ?_
  rintro e w5 ⟨rfl, hu5⟩
  have HU45 : Hid (Up w4 w5) := Lib.hid (((((Up.refl w4).alloc _).alloc _).alloc _).trans hu5)
  clear hu5
  go_wp2_with fail
  refine (HL3.out _ _ _ (HU4.out.trans HU45.out) (HBH.out.up HU45.out)).mono ?_
  rintro e w6 ⟨rfl, hd6⟩
  have HU46 := Lib.hid (HU45.out.trans hd6.up)
  clear hd6
  go_wp2_with fail
  refine (HB3.out _ _ _ (HU4.out.trans HU46.out) (HBH.out.up HU46.out)).mono ?_
  rintro e w7 ⟨rfl, hd7⟩
  have HU47 := Lib.hid (HU46.out.trans hd7.up)
  clear hd7
  go_wp2_with fail
  refine (HL0.out _ _ _ (HU4.out.trans HU47.out) (HB04.out.up HU47.out)).mono ?_
  rintro e w8 ⟨rfl, hd8⟩
  have HU8 := Lib.hid (HU4.out.trans (HU47.out.trans hd8.up))
  clear hd8
  go_wp2_with fail
  go_ret
  exact ⟨rfl, HU8.out⟩

end Go.Proofs.YtlclijnoablejaaDoor
