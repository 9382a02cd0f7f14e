/-
  The walk of the law's own examples ('alive').
-/
import Derived.Test.YtaplhooapgfdgaaDoorCycD
set_option linter.unusedVariables false
set_option linter.unusedSimpArgs false
namespace Go.Proofs.YtaplhooapgfdgaaDoor
open Go.RowKit

theorem Ring.up {w w' : World} (h : Ring w) (hb : Up w w') : Ring w' := h.below hb

def ParseUp (l : List Int) (w0 : World) (e : Ending) (w' : World) : Prop := ∃ A c, e = .returned (.tuple #[.slice A l.length c, .int .i64 0]) ∧ Row w' A l.length (IVal l) ∧ Up w0 w'
def ZerosUp (n : Nat) (w0 : World) (e : Ending) (w' : World) : Prop := ∃ A c, e = .returned (.slice A n c) ∧ Up w0 w'

theorem parse201 (w : World) : Calls Tryd.prog 19 #[.string ⟨#[50, 48, 49]⟩] w fun e w' => ParseUp [2, 0, 1] w e w' :=
  (parse_any ⟨#[50, 48, 49]⟩ w (by decide)).mono fun e w' h => by
    rw [show parseL (ByteArray.mk #[50, 48, 49]).data.toList = some [2, 0, 1] from by decide] at h
    exact h
theorem parse3 (w : World) : Calls Tryd.prog 19 #[.string ⟨#[51]⟩] w fun e w' => e = .returned (.tuple #[.slice none 0 0, .int .i64 3]) ∧ Up w w' :=
  (parse_any ⟨#[51]⟩ w (by decide)).mono fun e w' h => by
    rw [show parseL (ByteArray.mk #[51]).data.toList = none from by decide] at h
    exact h
theorem zeros3 (w0 w : World) (h : Up w0 w) : Calls Tryd.prog 7 #[.int .i64 3] w fun e w' => ZerosUp 3 w0 e w' :=
  (zeros_any 3 w).mono fun e w' ⟨A, c, he, _, hb⟩ => ⟨A, c, he, h.trans hb⟩

/-- Dominates, a row that stands and one that has just been laid. -/
theorem dom_lit (a l : List Int) (A : Option Addr) (c n : Nat) (r : Bool) (w0 W : World) (hn : l.length = n) (ha : a.length = n) (hn9 : n ≤ 8) (hr : Ring w0) (hrow : Row w0 A n (IVal a)) (h : Up w0 W) (hd : domI a l = r) (t : TypeId) (cs : Array Value) (hcs : cs = (l.map (Value.int .i64)).toArray) :
    Calls Tryd.prog 15 #[.slice A n c, .slice (some ⟨W.heap.size, 0, none⟩) n n] (W.alloc (.cells cs t)) fun e w' => e = .returned (.bool r) ∧ Up w0 w' := by
  subst hcs
  have hu := h.alloc (.cells (l.map (Value.int .i64)).toArray t)
  have c1 := dom_any a l A (some ⟨W.heap.size, 0, none⟩) c n (W.alloc (.cells (l.map (Value.int .i64)).toArray t)) (hr.up hu) (by omega) (by omega) (by rw [ha]; exact hrow.up hu) (row_lit W l t)
  rw [ha, hn, hd] at c1
  exact c1.mono fun e w' ⟨he, hb⟩ => ⟨he, hu.trans hb⟩
theorem dom_lit' (a l : List Int) (A : Option Addr) (c n : Nat) (r : Bool) (w0 W : World) (hn : l.length = n) (ha : a.length = n) (hn9 : n ≤ 8) (hr : Ring w0) (hrow : Row w0 A n (IVal a)) (h : Up w0 W) (hd : domI l a = r) (t : TypeId) (cs : Array Value) (hcs : cs = (l.map (Value.int .i64)).toArray) :
    Calls Tryd.prog 15 #[.slice (some ⟨W.heap.size, 0, none⟩) n n, .slice A n c] (W.alloc (.cells cs t)) fun e w' => e = .returned (.bool r) ∧ Up w0 w' := by
  subst hcs
  have hu := h.alloc (.cells (l.map (Value.int .i64)).toArray t)
  have c1 := dom_any l a (some ⟨W.heap.size, 0, none⟩) A n c (W.alloc (.cells (l.map (Value.int .i64)).toArray t)) (hr.up hu) (by omega) (by omega) (row_lit W l t) (by rw [ha]; exact hrow.up hu)
  rw [ha, hn, hd] at c1
  exact c1.mono fun e w' ⟨he, hb⟩ => ⟨he, hu.trans hb⟩
theorem text_up (l : List Int) (A : Option Addr) (c n : Nat) (t : List UInt8) (hn : l.length = n) (hn9 : n ≤ 8) (w0 W : World) (hrow : Row w0 A n (IVal l)) (h : Up w0 W) (ht : textL l = t) :
    Calls Tryd.prog 17 #[.slice A n c] W fun e w' => e = .returned (.string ⟨t.toArray⟩) ∧ Up w0 w' := by
  subst hn
  exact (text_any l A c W (by omega) (hrow.up h)).mono fun e w' ⟨he, hb⟩ => ⟨by rw [he, ht], h.trans hb⟩

set_option maxHeartbeats 1000000 in
theorem alive_any (w : World) (hr : Ring w) : Calls Tryd.prog 6 #[] w fun e w' => e = .returned (.bool true) ∧ Below w.heap.size w w' := by
  have hu1 := (Up.refl w).alloc (.cells #[.int .i64 0, .int .i64 1] 3)
  have hrow1 := row_lit w [0, 1] 3
  have hrow1 : Row (w.alloc (.cells #[.int .i64 0, .int .i64 1] 3)) (some ⟨w.heap.size, 0, none⟩) 2 (IVal [0, 1]) := hrow1
  have HU1 := Lib.hid hu1
  have HR1 := Lib.hid hrow1
  have HR := Lib.hid hr
  clear hu1 hrow1 hr
  go_enter Tryd.func6, Tryd.ntmps6
  go_wp2_with fail
  refine (parse201 _).mono ?_
  rintro e w2 ⟨A, c, rfl, hrow2, hu2⟩
  have HR2 := Lib.hid hrow2
  have HU2 := Lib.hid hu2
  clear hrow2 hu2
  go_wp2_with fail
  refine (parse3 _).mono ?_
  rintro e w3 ⟨rfl, hu3⟩
  have R1 := Lib.hid ((HR1.out.up HU2.out).up hu3)
  have R2 := Lib.hid (HR2.out.up hu3)
  have U3 := Lib.hid ((HU1.out.trans HU2.out).trans hu3)
  have RG := Lib.hid (HR.out.up U3.out)
  clear hu3 HR1 HR2 HU1 HU2 HR
  generalize w.heap.size = g at *
  go_wp2_with fail
  refine (dom_lit [0, 1] [2, 2] _ _ 2 true w3 _ rfl rfl (by decide) RG.out R1.out (Up.refl _) (by decide) _ _ rfl).mono ?_
  rintro e w4 ⟨rfl, hu⟩
  have HU := Lib.hid hu
  clear hu
  go_wp2_with fail
  refine (dom_lit [0, 1] [0, 0] _ _ 2 true w3 _ rfl rfl (by decide) RG.out R1.out HU.out (by decide) _ _ rfl).mono ?_
  clear HU
  rintro e w5 ⟨rfl, hu⟩
  have HU := Lib.hid hu
  clear hu
  go_wp2_with fail
  refine (dom_lit' [0, 1] [2, 2] _ _ 2 false w3 _ rfl rfl (by decide) RG.out R1.out HU.out (by decide) _ _ rfl).mono ?_
  clear HU
  rintro e w6 ⟨rfl, hu⟩
  have HU := Lib.hid hu
  clear hu
  go_wp2_with fail
  refine (next_any 2 _ (RG.out.up HU.out)).mono ?_
  rintro e w' ⟨rfl, rfl⟩
  rw [show nextI 2 = 0 from rfl]
  go_wp2_with fail
  refine (beats_any 1 0 _ (RG.out.up HU.out)).mono ?_
  rintro e w' ⟨rfl, rfl⟩
  rw [show beatsI 1 0 = true from rfl]
  go_wp2_with fail
  refine (text_up [2, 0, 1] _ _ 3 [50, 48, 49] rfl (by decide) w3 _ R2.out HU.out (by decide)).mono ?_
  clear HU
  rintro e w7 ⟨rfl, hu⟩
  have HU := Lib.hid hu
  clear hu
  go_wp2_with fail
  refine (zeros3 w3 _ HU.out).mono ?_
  clear HU
  rintro e w8 ⟨A2, c2, rfl, hu⟩
  have HU := Lib.hid hu
  clear hu
  go_wp2_with fail
  refine (text_up [] none 0 0 [45] rfl (by decide) w3 _ (Row.nil _ _ _) HU.out (by decide)).mono ?_
  clear HU
  rintro e w9 ⟨rfl, hu⟩
  have HU := Lib.hid hu
  clear hu
  go_wp2_with fail
  go_ret
  exact ⟨rfl, U3.out.trans HU.out⟩

end Go.Proofs.YtaplhooapgfdgaaDoor
