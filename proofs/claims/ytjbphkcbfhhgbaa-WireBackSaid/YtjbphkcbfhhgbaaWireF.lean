/-
  Package wire: Fail, Left, Err and NewReader on a Reader's state; the chapter's example.
-/
import Derived.Test.YtjbphkcbfhhgbaaWireE
set_option linter.unusedVariables false
set_option linter.unusedSimpArgs false
namespace Go.Proofs.Ytjbphkcbfhhgbaa
open Go.RowKit

theorem failR_any (g B C : Nat) (e0 : Int) (s : List UInt8 × Int) (w : World) (h : ReaderIs w g B C s) :
    Calls Try.prog 15 #[.pointer (some ⟨g, 0, none⟩), .int .i64 e0] w fun e w' => RdPost g B C (.tuple #[]) (failS s e0) w e w' := by
  unfold failS
  by_cases h0 : s.2 = 0
  · rw [if_pos h0]
    refine (fail_first g e0 w (by rw [h.c0, h0]) h.f0).mono ?_
    rintro e w' ⟨rfl, rfl⟩
    exact ⟨rfl, set_err h _ h0, Keep.set _ _ _ _, by simp, below_set h.lo _⟩
  · rw [if_neg h0]
    refine (fail_later g s.2 e0 w h.c0 (by simpa using h0)).mono ?_
    rintro e w' ⟨rfl, rfl⟩
    exact ⟨rfl, h, fun _ _ _ => rfl, rfl, Below.refl _ _⟩
theorem leftR_any (g B C : Nat) (s : List UInt8 × Int) (w : World) (h : ReaderIs w g B C s) :
    Calls Try.prog 14 #[.pointer (some ⟨g, 0, none⟩)] w fun e w' => e = .returned (.int .i64 (leftS s : Nat)) ∧ w = w' := by
  unfold leftS
  by_cases h0 : s.2 = 0
  · rw [if_pos h0]
    obtain ⟨A, c, h1, hr, h2, h3, h4, h5⟩ := h.rest h0
    exact left_ok g A _ c w ⟨by rw [h.c0, h0], h1, h.f0, h.f1⟩
  · rw [if_neg h0]
    exact left_bad g s.2 w h.c0 (by simpa using h0)
theorem errR_any (g B C : Nat) (s : List UInt8 × Int) (w : World) (h : ReaderIs w g B C s) :
    Calls Try.prog 13 #[.pointer (some ⟨g, 0, none⟩)] w fun e w' => e = .returned (.int .i64 s.2) ∧ w = w' := err_any g s.2 w h.c0

def NewPost (l : List UInt8) (w : World) (e : Ending) (w' : World) : Prop :=
  ∃ g, e = .returned (.pointer (some ⟨g, 0, none⟩)) ∧ ReaderIs w' g w.heap.size w'.heap.size (l, 0) ∧ Below w.heap.size w w'
theorem newR_any (l : List UInt8) (A : Option Addr) (c : Nat) (w : World) (hA : A = none → c = 0) (hm : l.length ≤ 140737488355328) (hrow : Row w A l.length (BVal l)) :
    Calls Try.prog 11 #[.slice A l.length c] w fun e w' => NewPost l w e w' := by
  refine (newReader_any l A c w hA hm hrow).mono ?_
  rintro e w' ⟨g, A', c', rfl, hR, hr, h1, h2, h3, h4, h5, h6⟩
  refine ⟨g, rfl, ⟨h3, h4, Nat.le_refl _, hR.c0, hR.f0, hR.f1, by simp only; omega, fun _ => ⟨A', c', hR.c1, hr, h1, h2, ?_, ?_⟩⟩, h6⟩
  · intro b off e _; exact (h5 b off e).2.2
  · intro b off e _; exact (h5 b off e).2.1

theorem row_bytes (w : World) (l : List UInt8) (e : TypeId) : Row (w.alloc (.cells (bcells l).toArray e)) (some ⟨w.heap.size, 0, none⟩) l.length (BVal l) := fun k hk =>
  ⟨w.heap.size, 0, rfl, by rw [World.cell?_alloc_at _ _ _ _ rfl, Nat.zero_add]; have := bcells_get hk; simpa using this⟩

theorem own_parts {w : World} {B : Nat} {e : TypeId} {v : Value} {l : List UInt8} (h : w.ownsRow B e 1 v l.length (bcells l)) :
    ∃ A c, v = .slice A l.length c ∧ Row w A l.length (BVal l) ∧ l.length ≤ c ∧ (A = none → c = 0) ∧ c ≤ 9223372036854775807 ∧ (∀ b off, A = some ⟨b, off, none⟩ → B ≤ b ∧ b < w.heap.size) := by
  obtain ⟨A, c, rfl, hr, hc⟩ := own_bytes h
  exact ⟨A, c, rfl, hr, hc, own_nil_cap h, own_cap h, fun b off e => by subst e; exact h.lt b rfl⟩

def TrueUp (w : World) (e : Ending) (w' : World) : Prop := e = .returned (.bool true) ∧ Below w.heap.size w w'

theorem s1 : numS ([172, 2, 0], 0) 300 = (300, ([0], 0)) := by decide
theorem s2 : numS ([0], 0) 0 = (0, ([], 0)) := by decide
theorem s3 : numS ([128, 0], 0) 9 = (0, ([128, 0], 3)) := by decide

theorem alive_any (w : World) : Calls Try.prog 7 #[] w fun e w' => TrueUp w e w' := by
  have HP := Lib.hid (fun (W : World) (L : Option Addr) (d : Nat) (h : Row W L 2 (IVal [300, 0])) => show Calls Try.prog 9 #[.slice none 0 0, .slice L 2 d] W fun e w' => OwnB [172, 2, 0] W e w' from
    put_any [] [300, 0] none 0 L d W (fun _ => rfl) (by decide) (by decide) (Row.nil _ _ _) h)
  have HN1 := Lib.hid (fun (W : World) A c hA (h : Row W A 3 (BVal [172, 2, 0])) => newR_any [172, 2, 0] A c W hA (by decide) h)
  have HN2 := Lib.hid (fun (W : World) A c hA (h : Row W A 2 (BVal [128, 0])) => newR_any [128, 0] A c W hA (by decide) h)
  have HS1 := Lib.hid (fun (W : World) g B C h => numR_any g B C 300 ([172, 2, 0], 0) W h)
  have HS2 := Lib.hid (fun (W : World) g B C h => numR_any g B C 0 ([0], 0) W h)
  have HS3 := Lib.hid (fun (W : World) g B C h => numR_any g B C 9 ([128, 0], 0) W h)
  have HL := Lib.hid (fun (W : World) g B C h => leftR_any g B C ([], 0) W h)
  have HE1 := Lib.hid (fun (W : World) g B C h => errR_any g B C ([], 0) W h)
  have HE2 := Lib.hid (fun (W : World) g B C h => errR_any g B C ([128, 0], 3) W h)
  have HE3 := Lib.hid (fun W : World => err_nil W)
  have HS4 := Lib.hid (fun W : World => num_nil 3 W)
  have HRL := Lib.hid (row_lit w [300, 0] 3)
  have HU0 := Lib.hid ((Below.refl w.heap.size w).alloc (Nat.le_refl _) (.cells #[.int .i64 300, .int .i64 0] 3))
  go_enter Try.func7, Try.ntmps7
  go_wp2_with fail
  refine (HP.out _ _ _ HRL.out).mono ?_
  rintro e w1 ⟨v1, rfl, hown, hb1⟩
  have HU1 := Lib.hid (HU0.out.trans (hb1.mono (by simp)))
  obtain ⟨A1, c1, rfl, hr1, hc1, hA1, hm1, hlt1⟩ := own_parts hown
  have HA1 := Lib.hid hA1
  have HR1 := Lib.hid hr1
  have HLT := Lib.hid hlt1
  clear hown hb1 HU0 hr1 hc1 hA1 hm1 hlt1 HRL HP
  go_wp2_with fail
  refine (HN1.out _ _ _ HA1.out HR1.out).mono ?_
  rintro e w2 ⟨g, rfl, hg2, hb2⟩
  have HU2 := Lib.hid (HU1.out.trans (hb2.mono HU1.out.size))
  have HR2 := Lib.hid (HR1.out.below hb2)
  have HG2 := Lib.hid hg2
  have HSZ1 := Lib.hid (HU1.out.size)
  have HRC : Hid (∀ k, k < w1.heap.size → w2.heap[k]? = w1.heap[k]?) := Lib.hid (fun k hk => hb2.block k hk)
  have HB12 := Lib.hid hb2.size
  clear hg2 hb2 HN1 HU1
  go_wp2_with fail
  refine (HS1.out _ _ _ _ HG2.out).mono ?_
  rintro e w3 ⟨rfl, hg3, hk3, hz3, hb3⟩
  rw [s1] at hg3 ⊢
  have HU3 := Lib.hid (HU2.out.trans (hb3.mono HSZ1.out))
  have HG3 := Lib.hid hg3
  have HK3 := Lib.hid hk3
  have HZ3 := Lib.hid hz3
  clear hg3 hb3 hk3 hz3 HS1 HU2 HG2
  go_wp2_with fail
  refine (HS2.out _ _ _ _ HG3.out).mono ?_
  rintro e w4 ⟨rfl, hg4, hk4, hz4, hb4⟩
  rw [s2] at hg4 ⊢
  have HU4 := Lib.hid (HU3.out.trans (hb4.mono HSZ1.out))
  have HG4 := Lib.hid hg4
  have HK4 := Lib.hid hk4
  have HZ4 := Lib.hid hz4
  have HRB := Lib.hid (row_bytes w4 [128, 0] 5)
  clear hg4 hb4 hk4 hz4 HS2 HU3 HG3
  have HR4 := Lib.hid (show Row w4 A1 3 (BVal [172, 2, 0]) by
    have hlo := HG4.out.lo
    have r3 := HR2.out.keep HK3.out (fun b off e _ => by have := HLT.out b off e; omega)
    exact r3.keep HK4.out (fun b off e _ => by have := HLT.out b off e; omega))
  have HUA := Lib.hid (HU4.out.alloc HU4.out.size (.cells (bcells [128, 0]).toArray 5))
  have HGA := Lib.hid (HG4.out.below ((Below.refl w4.heap.size w4).alloc (Nat.le_refl _) (.cells (bcells [128, 0]).toArray 5)))
  have HRA := Lib.hid (HR4.out.below ((Below.refl w4.heap.size w4).alloc (Nat.le_refl _) (.cells (bcells [128, 0]).toArray 5)))
  have HSZA := Lib.hid HGA.out.sz
  clear HK3 HZ3 HK4 HZ4 HR2 HG4 HR4 HRC HU4
  go_wp2_with fail
  refine (HN2.out _ _ _ (fun h => by cases h) HRB.out).mono ?_
  rintro e w5 ⟨q, rfl, hg5, hb5⟩
  have HU5 := Lib.hid (HUA.out.trans (hb5.mono HUA.out.size))
  have HG5 := Lib.hid (HGA.out.below hb5)
  have HR5 := Lib.hid (HRA.out.below hb5)
  have HQ5 := Lib.hid hg5
  have HB5 := Lib.hid hb5
  clear hg5 hb5 HGA HRA HRB HN2
  go_wp2_with fail
  refine (HS3.out _ _ _ _ HQ5.out).mono ?_
  rintro e w6 ⟨rfl, hg6, hk6, hz6, hb6⟩
  rw [s3] at hg6 ⊢
  have HQ6 := Lib.hid hg6
  have HU6 := Lib.hid (HU5.out.trans (hb6.mono HUA.out.size))
  have HG6 := Lib.hid (HG5.out.other (by omega) hk6 (Nat.le_trans HSZA.out HQ5.out.lo))
  have HR6 := Lib.hid (HR5.out.keep hk6 (fun b off e _ => by have h1 := HLT.out b off e; have h2 := Nat.le_trans HSZA.out HQ5.out.lo; have h3 := HB12.out; omega))
  have hcv : (convert 22 9 (.slice A1 3 c1)).run Try.prog w6 = .ok (.string ⟨#[172, 2, 0]⟩) w6 := conv_bytes [172, 2, 0] A1 c1 w6 HR6.out
  clear hg6 hk6 hz6 hb6 HUA HB5 HU5 HG5 HQ5 HR5 HS3
  go_wp2_with fail
  refine (HL.out _ _ _ _ HG6.out).mono ?_
  rintro e w7 ⟨rfl, rfl⟩
  go_wp2_with fail
  refine (HE1.out _ _ _ _ HG6.out).mono ?_
  rintro e w7 ⟨rfl, rfl⟩
  go_wp2_with fail
  refine (HE2.out _ _ _ _ HQ6.out).mono ?_
  rintro e w7 ⟨rfl, rfl⟩
  go_wp2_with fail
  refine (HE3.out _).mono ?_
  rintro e w7 ⟨rfl, rfl⟩
  go_wp2_with fail
  refine (HS4.out _).mono ?_
  rintro e w7 ⟨rfl, rfl⟩
  go_wp2_with fail
  go_ret
  exact ⟨rfl, HU6.out⟩

end Go.Proofs.Ytjbphkcbfhhgbaa
