/-
  The walk of OneBitAlone.
-/
import Derived.Test.YtleebaebihbcdaaOneA
import Derived.Test.YtleebaebihbcdaaTameO
import Derived.Deep.OwnRows
set_option linter.unusedVariables false
set_option linter.unusedSimpArgs false
namespace Go.Proofs.Ytleebaebihbcdaa
open Go.RowKit

def downA (d : Nat → Bool) : Array Value := #[.bool (d 0), .bool (d 1), .bool (d 2), .bool (d 3), .bool (d 4), .bool (d 5), .bool (d 6), .bool (d 7)]
theorem downA_get (d : Nat → Bool) (j : Nat) (h : j < 8) : (downA d)[j]? = some (.bool (d j)) := by
  have : j = 0 ∨ j = 1 ∨ j = 2 ∨ j = 3 ∨ j = 4 ∨ j = 5 ∨ j = 6 ∨ j = 7 := by omega
  rcases this with rfl | rfl | rfl | rfl | rfl | rfl | rfl | rfl <;> rfl
theorem downA_set (d : Nat → Bool) (j : Nat) (x : Bool) (h : j < 8) : (downA d).setIfInBounds j (.bool x) = downA (fun i => if i = j then x else d i) := by
  have : j = 0 ∨ j = 1 ∨ j = 2 ∨ j = 3 ∨ j = 4 ∨ j = 5 ∨ j = 6 ∨ j = 7 := by omega
  rcases this with rfl | rfl | rfl | rfl | rfl | rfl | rfl | rfl <;> rfl
theorem cellE2 {w w' : World} {b o : Nat} (h : w'.heap[b]? = w.heap[b]?) : w'.cell? ⟨b, o, none⟩ = w.cell? ⟨b, o, none⟩ := by simp only [World.cell?, h]
def put8 (w : World) (b : Nat) : World := (((((((w.setCell ⟨b, 0, none⟩ (.bool false)).setCell ⟨b, 1, none⟩ (.bool false)).setCell ⟨b, 2, none⟩ (.bool false)).setCell ⟨b, 3, none⟩ (.bool false)).setCell ⟨b, 4, none⟩ (.bool false)).setCell ⟨b, 5, none⟩ (.bool false)).setCell ⟨b, 6, none⟩ (.bool false)).setCell ⟨b, 7, none⟩ (.bool false)
theorem downA_congr {d d' : Nat → Bool} (h : ∀ j, j < 8 → d j = d' j) : downA d = downA d' := by
  unfold downA
  rw [h 0 (by decide), h 1 (by decide), h 2 (by decide), h 3 (by decide), h 4 (by decide), h 5 (by decide), h 6 (by decide), h 7 (by decide)]
theorem put8_other (w : World) (b k : Nat) (h : k ≠ b) : (put8 w b).heap[k]? = w.heap[k]? := by
  unfold put8
  rw [Below.heap_setCell _ _ _ _ h, Below.heap_setCell _ _ _ _ h, Below.heap_setCell _ _ _ _ h, Below.heap_setCell _ _ _ _ h, Below.heap_setCell _ _ _ _ h, Below.heap_setCell _ _ _ _ h, Below.heap_setCell _ _ _ _ h, Below.heap_setCell _ _ _ _ h]
/-- What the law has noted of who is down. -/
structure Noted (w7 wr : World) (d : Nat → Bool) : Prop where
  up : Up w7 wr
  box : wr.heap[w7.heap.size]? = some (.cells (downA d) 74 (0, 0))
theorem Noted.alloc {w7 wr : World} {d : Nat → Bool} (h : Noted w7 wr d) (o : Obj) : Noted w7 (wr.alloc o) d :=
  ⟨h.up.alloc o, (Below.heap_alloc wr o _ (Array.getElem?_eq_some_iff.1 h.box).1).trans h.box⟩
theorem Noted.store {w7 wr : World} {d : Nat → Bool} (h : Noted w7 wr d) (j : Nat) (hj : j < 8) (x : Bool) : Noted w7 (wr.setCell ⟨w7.heap.size, j, none⟩ (.bool x)) (fun i => if i = j then x else d i) :=
  ⟨h.up.setCell (p := ⟨w7.heap.size, j, none⟩) (Nat.le_refl _) _, by rw [heap_setCell_same _ _ _ _ _ _ h.box, downA_set _ _ _ hj]⟩
theorem Noted.congr {w7 wr : World} {d d' : Nat → Bool} (h : Noted w7 wr d) (e : ∀ j, j < 8 → d j = d' j) : Noted w7 wr d' :=
  ⟨h.up, by rw [← downA_congr e]; exact h.box⟩
theorem Noted.wipe {w7 wr : World} {d : Nat → Bool} (h : Noted w7 wr d) : Noted w7 (put8 wr w7.heap.size) (fun _ => false) := by
  unfold put8
  refine ((((((((h.store 0 (by decide) false).store 1 (by decide) false).store 2 (by decide) false).store 3 (by decide) false).store 4 (by decide) false).store 5 (by decide) false).store 6 (by decide) false).store 7 (by decide) false).congr fun j hj => ?_
  have : j = 0 ∨ j = 1 ∨ j = 2 ∨ j = 3 ∨ j = 4 ∨ j = 5 ∨ j = 6 ∨ j = 7 := by omega
  rcases this with rfl | rfl | rfl | rfl | rfl | rfl | rfl | rfl <;> simp
theorem allz_replicate (m : Nat) : AllZ (List.replicate m 0) m := ⟨fun k => by
  rw [List.getD_eq_getElem?_getD]
  cases h : (List.replicate m (0 : Int))[k]? with
  | none => rfl
  | some x => exact (List.mem_replicate.1 (List.mem_of_getElem? h)).2, by simp⟩

set_option maxRecDepth 10000 in
set_option maxHeartbeats 4000000 in
theorem oneBitAlone_any (n me : Int) (l : List Int) (A : Option Addr) (cc : Nat) (w : World) (hn : 0 ≤ n ∧ n ≤ 255) (hme : 0 ≤ me ∧ me ≤ 255) (hl : l.length ≤ 9223372036854775807) (hr : Row w A l.length (IVal l)) :
    Calls Try.prog 11 #[.int .u8 n, .int .u8 me, .slice A l.length cc] w fun e w' => e = .returned (.bool true) ∧ Up w w' := by
  have HAL := Lib.hid (fun W : World => alive24_any W)
  by_cases hs : l.length ≤ 300
  · have z1 : ((300 : Int) < (l.length : Int)) = False := by simp; omega
    obtain ⟨mn, hmn⟩ : ∃ mn : Nat, 1 + n % 8 = mn := ⟨(1 + n % 8).toNat, by omega⟩
    have hm : 1 ≤ mn ∧ mn ≤ 8 := by omega
    obtain ⟨tn, htn⟩ : ∃ tn : Nat, me.tmod mn = tn := ⟨(me.tmod mn).toNat, by
      have := Int.tmod_nonneg (mn : Int) hme.1
      omega⟩
    have ht : tn < mn := by
      have := Int.tmod_lt_of_pos me (show (0 : Int) < mn by omega)
      omega
    have hm0 : ((mn : Int) == 0) = false := by rw [beq_eq_false_iff_ne]; omega
    have hm1 : ¬ ((mn : Int) = 0) := by omega
    have HM := Lib.hid (And.intro hm ht)
    have hmk : ∀ W : World, (Instr.makeSlice 23 (.int .i64 mn) (.int .i64 mn)).run Try.prog W = .ok (.slice (some ⟨W.heap.size, 0, none⟩) mn mn) (W.alloc (.cells (madeCells #[.int .i64 0] mn) 3)) := fun W =>
      run_make_row' 23 3 (.int .i64 0) 8 Try.underlying23 infoInt rfl .i64 .i64 mn (by omega) (by omega) W
    obtain ⟨v2a, v2b, v2c⟩ := two_allocO w #[.int .i64 2, .int .i64 mn, .int .i64 0, .int .i64 0, .int .i64 0, .int .i64 0] #[.int .i64 tn] 68 3
    have hs2 : ((w.alloc (.cells #[.int .i64 2, .int .i64 mn, .int .i64 0, .int .i64 0, .int .i64 0, .int .i64 0] 68)).alloc (.cells #[.int .i64 tn] 3)).heap.size = w.heap.size + 2 := by simp
    obtain ⟨W2, hW2⟩ : ∃ x, (w.alloc (.cells #[.int .i64 2, .int .i64 mn, .int .i64 0, .int .i64 0, .int .i64 0, .int .i64 0] 68)).alloc (.cells #[.int .i64 tn] 3) = x := ⟨_, rfl⟩
    rw [hW2] at v2a v2b v2c hs2
    have hr0 : Row (W2.alloc (.cells (madeCells #[.int .i64 0] mn) 3)) (some ⟨W2.heap.size, 0, none⟩) mn (IVal (List.replicate mn 0)) := (made_row W2 (.int .i64 0) mn 3).congr fun k hk => by
      unfold IVal
      rw [List.getD_eq_getElem?_getD, List.getElem?_replicate, if_pos hk]; rfl
    have hu3 : Up W2 (W2.alloc (.cells (madeCells #[.int .i64 0] mn) 3)) := (Up.refl _).alloc _
    have hb3 := (hu3.block _ (Array.getElem?_eq_some_iff.1 v2b).1).trans v2b
    have ht3 := (hu3.block _ (Array.getElem?_eq_some_iff.1 v2c).1).trans v2c
    have HPQ := Lib.hid (playQ 55 #[.pointer (some ⟨w.heap.size, 0, none⟩), .pointer (some ⟨w.heap.size + 1, 0, none⟩)] (OneR (List.replicate mn 0) mn tn) [] (List.replicate mn 0) none (some ⟨W2.heap.size, 0, none⟩) 0 mn _ (fun _ => rfl) (by simp) (by simp; omega) (Row.nil _ _ _) (by rw [List.length_replicate]; exact hr0) (by simp) (fun args W => oEnters Try.func55 (by kernel_rfl) rfl args W)
      (fun W' g B hu _ h => ocl_55 (List.replicate mn 0) mn tn w.heap.size (w.heap.size + 1) g B W' hm ht ((hu.block _ (Array.getElem?_eq_some_iff.1 hb3).1).trans hb3) ((hu.block _ (Array.getElem?_eq_some_iff.1 ht3).1).trans ht3) h))
    rw [List.length_replicate] at HPQ
    have HB3 := Lib.hid (And.intro hb3 ht3)
    have HU3 := Lib.hid (v2a.trans hu3)
    have HW2 := Lib.hid hW2
    have HS2 := Lib.hid hs2
    have HL := Lib.hid hs
    have HR0 := Lib.hid hr
    clear hr v2a v2b v2c hb3 ht3 hu3 hr0 hW2 hs2
    go_enter Try.func11, Try.ntmps11
    go_wp2_with fail
    rw [HW2.out, show w.heap.size + 1 + 1 = W2.heap.size from by rw [HS2.out]]
    refine HPQ.out.mono ?_
    rintro e w4 ⟨⟨ro, s⟩, ov, hR, rfl, ⟨A3, c3, N3, d3, L3, e3, rfl, r1, r2, r3, _⟩, hU4⟩
    obtain ⟨-, hz, hd⟩ := hR
    have hro : ro ≠ none := fun e => (hz e).2 (allz_replicate mn)
    obtain ⟨q1, -, -, q4, -⟩ := hd hro
    dsimp only at q1 q4
    subst q1
    have h2 := (q4 (allz_replicate mn)).1
    simp only [Option.getD_some, Option.isSome_some, h2]
    have HU4 := Lib.hid (HU3.out.trans hU4)
    have HB4 := Lib.hid (And.intro ((hU4.block _ (Array.getElem?_eq_some_iff.1 HB3.out.1).1).trans HB3.out.1) ((hU4.block _ (Array.getElem?_eq_some_iff.1 HB3.out.2).1).trans HB3.out.2))
    have hX := heap_alloc_new w4 (.cells #[.bool true, .slice A3 mn c3, .slice N3 s.nts.length d3, .slice L3 (shortL s.loc).length e3] 29)
    have hXU : Up w4 (w4.alloc (.cells #[.bool true, .slice A3 mn c3, .slice N3 s.nts.length d3, .slice L3 (shortL s.loc).length e3] 29)) := (Up.refl _).alloc _
    generalize hw5 : w4.alloc (.cells #[.bool true, .slice A3 mn c3, .slice N3 s.nts.length d3, .slice L3 (shortL s.loc).length e3] 29) = w5 at *
    have x0 := cell_of_row _ _ 0 _ _ _ hX
    have x1 := cell_of_row _ _ 1 _ _ _ hX
    simp only [List.getElem?_toArray, List.getElem?_cons_zero, List.getElem?_cons_succ] at x0 x1
    have hne : ((mn : Int) != (mn : Int)) = false := by simp
    have HU5 := Lib.hid (HU4.out.trans hXU)
    have HB5 := Lib.hid (And.intro ((hXU.block _ (Array.getElem?_eq_some_iff.1 HB4.out.1).1).trans HB4.out.1) ((hXU.block _ (Array.getElem?_eq_some_iff.1 HB4.out.2).1).trans HB4.out.2))
    have HTA := Lib.hid (tame_own l A cc 1 w5 (by omega) (HR0.out.up HU5.out))
    clear r1 r2 r3 hz hd hro q4 h2 hU4 HPQ hX hXU HU4 HB4 HB3 HU3 hmk hn hme hmn hm ht htn hm0 hm1 HR0
    go_wp2_with fail
    refine HTA.out.mono ?_
    rintro e w6 ⟨v1, rfl, hown, hU6⟩
    have HTL := Lib.hid (show (tameL l 1).length = l.length by unfold tameL; simp)
    generalize tameL l 1 = tl at *
    obtain ⟨ln, hln⟩ : ∃ k, l.length = k := ⟨_, rfl⟩
    rw [hln] at hown HTL HL hs z1 hl ⊢
    have hown2 : w6.ownsRow w5.heap.size 3 1 v1 tl.length (icells tl) := by rw [HTL.out]; exact hown
    obtain ⟨A2, c2, rfl, hrow2, -⟩ := own_row hown2 (f := IVal tl) (fun q hq => iVal_map hq)
    have hb6 := (hU6.block _ (Array.getElem?_eq_some_iff.1 HB5.out.1).1).trans HB5.out.1
    have ht6 := (hU6.block _ (Array.getElem?_eq_some_iff.1 HB5.out.2).1).trans HB5.out.2
    have HPQ := Lib.hid (playQ 57 #[.pointer (some ⟨w.heap.size, 0, none⟩), .pointer (some ⟨w.heap.size + 1, 0, none⟩)] (OneR tl mn tn) [] tl none A2 0 c2 w6 (fun _ => rfl) (by simp) (by rw [HTL.out]; have := HL.out; omega) (Row.nil _ _ _) hrow2 (by simp) (fun args W => oEnters Try.func57 (by kernel_rfl) rfl args W)
      (fun W' g B hu _ h => ocl_57 tl mn tn w.heap.size (w.heap.size + 1) g B W' HM.out.1 HM.out.2 ((hu.block _ (Array.getElem?_eq_some_iff.1 hb6).1).trans hb6) ((hu.block _ (Array.getElem?_eq_some_iff.1 ht6).1).trans ht6) h))
    have HRW := Lib.hid hrow2
    have HU6 := Lib.hid (HU5.out.trans hU6)
    have HT6 := Lib.hid ht6
    rw [HTL.out] at HPQ ⊢
    clear hown hown2 hrow2 hb6 ht6 hU6 HU5 HB5 HTA x0 x1 hne hw5 hln
    go_wp2_with fail
    refine HPQ.out.mono ?_
    rintro e w7 ⟨⟨ro, s7⟩, ov, hR, rfl, ⟨A7, c7, N7, d7, L7, e7, rfl, r1, r2, r3, _⟩, hU7⟩
    have HU7 := Lib.hid (HU6.out.trans hU7)
    have HT7 := Lib.hid ((hU7.block _ (Array.getElem?_eq_some_iff.1 HT6.out).1).trans HT6.out)
    have HRW7 := Lib.hid (HRW.out.up hU7)
    have HAC := Lib.hid r1
    have HRR := Lib.hid hR
    clear r1 r2 r3 hU7 HPQ HU6 HT6 HRW hR
    cases ro with
    | none =>
      simp only [Option.getD_none, Option.isSome_none]
      have hX := heap_alloc_new w7 (.cells #[.bool false, .slice A7 s7.acc.length c7, .slice N7 s7.nts.length d7, .slice L7 (shortL s7.loc).length e7] 29)
      have hXU : Up w7 (w7.alloc (.cells #[.bool false, .slice A7 s7.acc.length c7, .slice N7 s7.nts.length d7, .slice L7 (shortL s7.loc).length e7] 29)) := (Up.refl _).alloc _
      have x0 := cell_of_row _ _ 0 _ _ _ hX
      simp only [List.getElem?_toArray, List.getElem?_cons_zero, List.getElem?_cons_succ] at x0
      have HU8 := Lib.hid (HU7.out.trans hXU)
      clear hX hXU
      go_wp2_with fail
      refine (HAL.out _).mono ?_
      rintro e w9 ⟨rfl, hU9⟩
      have HU9 := Lib.hid (HU8.out.trans hU9)
      clear hU9 x0
      go_wp2_with fail
      go_ret
      exact ⟨rfl, HU9.out⟩
    | some v =>
      obtain ⟨han, -, hd⟩ := HRR.out
      obtain ⟨-, hle, hdn, -, -⟩ := hd (by simp)
      dsimp only at han hle hdn
      simp only [Option.getD_some, Option.isSome_some]
      have hdn2 : ∀ j, j < mn → dnN tl mn tn s7.acc s7.acc.length j = true := fun j hj => by have := hdn j hj; unfold dn at this; rw [han] at this; exact this
      have HAC2 := Lib.hid (show AccRow w7 A7 s7.acc from HAC.out)
      obtain ⟨al, hal⟩ : ∃ k, s7.acc.length = k := ⟨_, rfl⟩
      rw [hal] at hle hdn2 ⊢
      have HAN := Lib.hid hal
      have HDN := Lib.hid hdn2
      have HLE := Lib.hid (show al ≤ ln from by rw [← HTL.out]; exact hle)
      have hX := heap_alloc_new w7 (.cells #[.bool true, .slice A7 al c7, .slice N7 s7.nts.length d7, .slice L7 (shortL s7.loc).length e7] 29)
      have hXU : Up w7 (w7.alloc (.cells #[.bool true, .slice A7 al c7, .slice N7 s7.nts.length d7, .slice L7 (shortL s7.loc).length e7] 29)) := (Up.refl _).alloc _
      generalize hw8 : w7.alloc (.cells #[.bool true, .slice A7 al c7, .slice N7 s7.nts.length d7, .slice L7 (shortL s7.loc).length e7] 29) = w8 at *
      have x0 := cell_of_row _ _ 0 _ _ _ hX
      have x1 := cell_of_row _ _ 1 _ _ _ hX
      simp only [List.getElem?_toArray, List.getElem?_cons_zero, List.getElem?_cons_succ] at x0 x1
      have HX1 := Lib.hid x1
      have HXU := Lib.hid hXU
      have HU8 := Lib.hid (HU7.out.trans hXU)
      have HT8 := Lib.hid ((hXU.block _ (Array.getElem?_eq_some_iff.1 HT7.out).1).trans HT7.out)
      have HRW8 := Lib.hid (HRW7.out.up hXU)
      have HN0 := Lib.hid (show Noted w8 (w8.alloc (.cells #[.bool false, .bool false, .bool false, .bool false, .bool false, .bool false, .bool false, .bool false] 74)) (fun _ => false) from ⟨(Up.refl _).alloc _, heap_alloc_new w8 _⟩)
      clear hal han hd hle hdn hdn2 hX hXU x1 HRR HAC HU7 HT7 HRW7
      go_wp2_with fail
      generalize hw9 : w8.alloc (.cells #[.bool false, .bool false, .bool false, .bool false, .bool false, .bool false, .bool false, .bool false] 74) = w9 at *
      clear hw9 hw8 x0
      go_loopw [16] (fun v wr => ∃ (i : Nat), i ≤ al ∧ v = .int .i64 i ∧ Hid (Noted w8 wr (dnN tl mn tn s7.acc i))) (fun v _ => al - (intOf v).toNat)
      case atStart => exact ⟨0, by omega, rfl, HN0⟩
      case round =>
        obtain ⟨i, hi, rfl, HN⟩ := hrel
        have x1 := (HN.out.up.cell (p := ⟨w7.heap.size, 1, none⟩) (cell_lt HX1.out)).trans HX1.out
        by_cases hil : i < al
        · have hii : (i : Int) < al := by omega
          have hi0 : (0 : Int) ≤ i := by omega
          obtain ⟨ab, ao, rfl, y0, y1, y2⟩ := HAC2.out i (by rw [HAN.out]; exact hil)
          obtain ⟨b2, o2, rfl, hx⟩ := HRW8.out i (by rw [HTL.out]; have := HLE.out; omega)
          have hu := HXU.out.trans HN.out.up
          have y0 := (hu.cell (p := ⟨ab, ao + i * 3, none⟩) (cell_lt y0)).trans y0
          have y1 := (hu.cell (p := ⟨ab, ao + i * 3 + 1, none⟩) (cell_lt y1)).trans y1
          have y2 := (hu.cell (p := ⟨ab, ao + i * 3 + 2, none⟩) (cell_lt y2)).trans y2
          have hx := (HN.out.up.cell (p := ⟨b2, o2 + i, none⟩) (cell_lt hx)).trans hx
          unfold IVal at hx
          have HD := Lib.hid (show dnN tl mn tn s7.acc (i + 1) = dnS (tl.getD i 0) mn tn (s7.acc.getD i (0, 0, 0)) (dnN tl mn tn s7.acc i) from rfl)
          generalize s7.acc.getD i (0, 0, 0) = a at *
          generalize tl.getD i 0 = z at *
          generalize dnN tl mn tn s7.acc i = dd at *
          obtain ⟨a0, a1, a2⟩ := a
          dsimp only at y0 y1 y2
          have HE := Lib.hid (HN.out.alloc (.cells #[.int .i64 a0, .int .i64 a1, .int .i64 a2] 45))
          have hbe := heap_alloc_new wr (.cells #[.int .i64 a0, .int .i64 a1, .int .i64 a2] 45)
          have hue : Up wr (wr.alloc (.cells #[.int .i64 a0, .int .i64 a1, .int .i64 a2] 45)) := (Up.refl _).alloc _
          have HSB := Lib.hid (show w8.heap.size < wr.heap.size ∧ w.heap.size + 1 < w8.heap.size from ⟨(Array.getElem?_eq_some_iff.1 HN.out.box).1, (Array.getElem?_eq_some_iff.1 HT8.out).1⟩)
          generalize hwe : wr.alloc (.cells #[.int .i64 a0, .int .i64 a1, .int .i64 a2] 45) = we at *
          have z0 := cell_of_row _ _ 0 _ _ _ hbe
          have z1' := cell_of_row _ _ 1 _ _ _ hbe
          have z2' := cell_of_row _ _ 2 _ _ _ hbe
          simp only [List.getElem?_toArray, List.getElem?_cons_zero, List.getElem?_cons_succ] at z0 z1' z2'
          have HZ2 := Lib.hid z2'
          have fz : ∀ q, we.frozen? ⟨w8.heap.size, q, none⟩ = false := fun q => frozen_of_row _ _ q _ _ HE.out.box
          have hx' := (hue.cell (p := ⟨b2, o2 + i, none⟩) (cell_lt hx)).trans hx
          have hmn8 := HM.out.1
          have hiln : i < ln := by have := HLE.out; omega
          have hilni : (i : Int) < (ln : Int) := by omega
          have hiw : wrap64 ((i : Int) + 1) = (i : Int) + 1 := IntWalk.wrap64_in _ (by have := HLE.out; have := HL.out; omega)
          cases e2 : (a0 == 2)
          · have he2 : ¬ a0 = 2 := by simpa using e2
            by_cases e3 : 0 ≤ a1
            rotate_left
            · have HN2 := Lib.hid (show Noted w8 we (dnN tl mn tn s7.acc (i + 1)) from by
                rw [HD.out]
                unfold dnS
                rw [if_neg he2, if_neg (fun q => e3 q.1)]
                exact HE.out)
              clear fz HE hbe hue
              go_wp2_with fail
              go_roundw
              case rel => exact ⟨i + 1, by omega, by go_num, HN2⟩
              case measure => simp [intOf]; omega
            by_cases e4 : a1 < (mn : Int)
            rotate_left
            · have HN2 := Lib.hid (show Noted w8 we (dnN tl mn tn s7.acc (i + 1)) from by
                rw [HD.out]
                unfold dnS
                rw [if_neg he2, if_neg (fun q => e4 q.2.1)]
                exact HE.out)
              clear fz HE hbe hue
              go_wp2_with fail
              go_roundw
              case rel => exact ⟨i + 1, by omega, by go_num, HN2⟩
              case measure => simp [intOf]; omega
            by_cases e5 : z = 0
            rotate_left
            · have e5' : (z == 0) = false := by rw [beq_eq_false_iff_ne]; exact e5
              have HN2 := Lib.hid (show Noted w8 we (dnN tl mn tn s7.acc (i + 1)) from by
                rw [HD.out]
                unfold dnS
                rw [if_neg he2, if_neg (fun q => e5 q.2.2)]
                exact HE.out)
              clear fz HE hbe hue
              go_wp2_with fail
              go_roundw
              case rel => exact ⟨i + 1, by omega, by go_num, HN2⟩
              case measure => simp [intOf]; omega
            have e5' : (z == 0) = true := by rw [beq_iff_eq]; exact e5
            obtain ⟨xn, rfl⟩ := Int.eq_ofNat_of_zero_le e3
            have hxn : xn < 8 := by omega
            have HN2 := Lib.hid (show Noted w8 (we.setCell ⟨w8.heap.size, xn, none⟩ (.bool true)) (dnN tl mn tn s7.acc (i + 1)) from by
              rw [HD.out]
              unfold dnS
              rw [if_neg he2, if_pos ⟨e3, e4, e5⟩]
              refine (HE.out.store xn hxn true).congr fun q _ => ?_
              by_cases h : q = xn
              · simp [h]
              · have h2 : ¬ ((q : Int) = (xn : Int)) := by omega
                simp [h, h2])
            have hdb := (cell_of_row _ _ xn _ _ _ HE.out.box).trans (downA_get _ _ hxn)
            have hxi : (xn : Int) < 8 := by omega
            have fzx := fz xn
            clear fz HE hbe hue
            go_wp2_with fail
            go_roundw
            case rel => exact ⟨i + 1, by omega, by go_num, HN2⟩
            case measure => simp [intOf]; omega
          · have he2 : a0 = 2 := by simpa using e2
            subst he2
            have htn8 : tn < 8 := by have := HM.out.2; omega
            have HN2 := Lib.hid (show Noted w8 ((put8 we w8.heap.size).setCell ⟨w8.heap.size, tn, none⟩ (.bool (a2 == 1))) (dnN tl mn tn s7.acc (i + 1)) from by
              rw [HD.out]
              unfold dnS
              rw [if_pos rfl]
              refine (HE.out.wipe.store tn htn8 (a2 == 1)).congr fun q _ => ?_
              by_cases h : q = tn
              · simp [h]
              · simp [h])
            have HPU := Lib.hid HE.out.wipe
            have g1 : (put8 we w8.heap.size).cell? ⟨w.heap.size + 1, 0, none⟩ = some (.int .i64 tn) := cell_of_row _ _ 0 _ _ _ ((HPU.out.up.block _ (Array.getElem?_eq_some_iff.1 HT8.out).1).trans HT8.out)
            have g2 : (put8 we w8.heap.size).cell? ⟨wr.heap.size, 2, none⟩ = some (.int .i64 a2) := (cellE2 (put8_other we w8.heap.size wr.heap.size (by have := HSB.out; omega))).trans z2'
            have g3 : (put8 we w8.heap.size).cell? ⟨w8.heap.size, tn, none⟩ = some (.bool false) := (cell_of_row _ _ tn _ _ _ HPU.out.box).trans (downA_get _ _ htn8)
            have g4 : (put8 we w8.heap.size).frozen? ⟨w8.heap.size, tn, none⟩ = false := frozen_of_row _ _ tn _ _ HPU.out.box
            have htni : (tn : Int) < 8 := by omega
            have d0 := (cell_of_row _ _ 0 _ _ _ HE.out.box).trans (downA_get _ 0 (by decide))
            have d1 := (cell_of_row _ _ 1 _ _ _ HE.out.box).trans (downA_get _ 1 (by decide))
            have d2 := (cell_of_row _ _ 2 _ _ _ HE.out.box).trans (downA_get _ 2 (by decide))
            have d3 := (cell_of_row _ _ 3 _ _ _ HE.out.box).trans (downA_get _ 3 (by decide))
            have d4 := (cell_of_row _ _ 4 _ _ _ HE.out.box).trans (downA_get _ 4 (by decide))
            have d5 := (cell_of_row _ _ 5 _ _ _ HE.out.box).trans (downA_get _ 5 (by decide))
            have d6 := (cell_of_row _ _ 6 _ _ _ HE.out.box).trans (downA_get _ 6 (by decide))
            have d7 := (cell_of_row _ _ 7 _ _ _ HE.out.box).trans (downA_get _ 7 (by decide))
            unfold put8 at g1 g2 g3 g4 HN2
            clear HE hbe hue HPU
            go_wp2_with fail
            go_roundw
            case rel => exact ⟨i + 1, by omega, by go_num, HN2⟩
            case measure => simp [intOf]; omega
        · obtain rfl : i = al := by omega
          clear hil
          go_wp2_with fail
          go_loopw [18] (fun v wz => ∃ (j : Nat), j ≤ mn ∧ v = .int .i64 j ∧ wz = wr) (fun v _ => mn - (intOf v).toNat)
          case atStart => exact ⟨0, by omega, rfl, by first | rfl | trivial⟩
          case round =>
            obtain ⟨j, hj, rfl, rfl⟩ := hrel
            by_cases hjl : j < mn
            · have hji : (j : Int) < mn := by omega
              have hj8 : j < 8 := by have := HM.out.1; omega
              have hj8i : (j : Int) < 8 := by omega
              have hdb := (cell_of_row _ _ j _ _ _ HN.out.box).trans (downA_get _ _ hj8)
              rw [HDN.out j hjl] at hdb
              go_wp2_with fail
              go_roundw
              case rel => exact ⟨j + 1, by omega, by go_num, trivial⟩
              case measure => simp [intOf]; omega
            · obtain rfl : j = mn := by omega
              clear hjl
              go_wp2_with fail
              refine (HAL.out _).mono ?_
              rintro e w10 ⟨rfl, hU10⟩
              have HU10 := Lib.hid ((HU8.out.trans HN.out.up).trans hU10)
              clear hU10
              go_wp2_with fail
              go_ret
              exact ⟨rfl, HU10.out⟩
  · have z1 : ((300 : Int) < (l.length : Int)) = True := by simp; omega
    clear hr
    go_enter Try.func11, Try.ntmps11
    go_wp2_with fail
    refine (HAL.out _).mono ?_
    rintro e w1 ⟨rfl, hU⟩
    go_wp2_with fail
    go_ret
    exact ⟨rfl, hU⟩

end Go.Proofs.Ytleebaebihbcdaa
