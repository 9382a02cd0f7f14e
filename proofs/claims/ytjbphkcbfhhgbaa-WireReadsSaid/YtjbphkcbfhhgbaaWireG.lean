/-
  Package wire: the document's Reader: its state, Fail, and the last byte of a number.
-/
import Derived.Test.YtjbphkcbfhhgbaaWireF
set_option linter.unusedVariables false
set_option linter.unusedSimpArgs false
namespace Go.Proofs.Ytjbphkcbfhhgbaa
open Go.RowKit

/-- The document's Reader in the block h, from C on; its bytes lie below C. -/
structure RefIs (w : World) (h C : Nat) (s : List UInt8 × Int) : Prop where
  lo : C ≤ h
  hi : h < w.heap.size
  c1 : w.cell? ⟨h, 1, none⟩ = some (.int .i64 s.2)
  f0 : w.frozen? ⟨h, 0, none⟩ = false
  f1 : w.frozen? ⟨h, 1, none⟩ = false
  len : s.1.length ≤ 9223372036854775807
  rest : s.2 = 0 → ∃ A c, w.cell? ⟨h, 0, none⟩ = some (.slice A s.1.length c) ∧ Row w A s.1.length (BVal s.1) ∧ s.1.length ≤ c ∧ c ≤ 9223372036854775807 ∧ (∀ b off, A = some ⟨b, off, none⟩ → 0 < s.1.length → b < C)
  bad : s.2 ≠ 0 → w.cell? ⟨h, 0, none⟩ = some (.slice none 0 0)

theorem RefIs.keep {w w' : World} {h C : Nat} {s : List UInt8 × Int} (r : RefIs w h C s) (hs : w.heap.size ≤ w'.heap.size) (hk : ∀ k, k < C → w'.heap[k]? = w.heap[k]?) (hh : w'.heap[h]? = w.heap[h]?) : RefIs w' h C s where
  lo := r.lo
  hi := Nat.lt_of_lt_of_le r.hi hs
  c1 := (keep_cell hh).trans r.c1
  f0 := (keep_frozen hh).trans r.f0
  f1 := (keep_frozen hh).trans r.f1
  len := r.len
  rest := fun h0 => by
    obtain ⟨A, c, h1, hr, h2, h3, h4⟩ := r.rest h0
    exact ⟨A, c, (keep_cell hh).trans h1, hr.keepC hk h4, h2, h3, h4⟩
  bad := fun h0 => (keep_cell hh).trans (r.bad h0)
theorem RefIs.below {w w' : World} {h C : Nat} {s : List UInt8 × Int} (r : RefIs w h C s) (hb : Below w.heap.size w w') : RefIs w' h C s :=
  r.keep hb.size (fun k hk => hb.block k (by have := r.lo; have := r.hi; omega)) (hb.block h r.hi)
theorem RefIs.other {w w' : World} {h C q : Nat} {s : List UInt8 × Int} (r : RefIs w h C s) (hs : w.heap.size ≤ w'.heap.size) (hk : Keep q w w') (hq : C ≤ q) (hne : h ≠ q) : RefIs w' h C s :=
  r.keep hs (fun k hlt => hk k (by have := r.lo; have := r.hi; omega) (by omega)) (hk h r.hi hne)
theorem RefIs.word {w : World} {h C : Nat} {l l' : List UInt8} {e : Int} (r : RefIs w h C (l, e)) (he : e ≠ 0) (hl : l'.length ≤ 9223372036854775807) : RefIs w h C (l', e) where
  lo := r.lo
  hi := r.hi
  c1 := r.c1
  f0 := r.f0
  f1 := r.f1
  len := hl
  rest := fun h0 => absurd h0 he
  bad := r.bad

def RefPost (h C : Nat) (v : Value) (s : List UInt8 × Int) (w : World) (e : Ending) (w' : World) : Prop :=
  e = .returned v ∧ RefIs w' h C s ∧ Keep h w w' ∧ w'.heap.size = w.heap.size ∧ Below C w w'

theorem Keep.trans {h : Nat} {a b c : World} (x : Keep h a b) (y : Keep h b c) (hs : a.heap.size ≤ b.heap.size) : Keep h a c := fun k hk hne => (y k (by omega) hne).trans (x k hk hne)

theorem rfail_any (h C : Nat) (e0 : Int) (s : List UInt8 × Int) (w : World) (r : RefIs w h C s) :
    Calls Try.prog 16 #[.pointer (some ⟨h, 0, none⟩), .int .i64 e0] w fun e w' => RefPost h C (.tuple #[]) (failS s e0) w e w' := by
  have f0 := r.f0
  have f1 := r.f1
  have c1 := r.c1
  have HR := Lib.hid r
  unfold failS
  by_cases h0 : s.2 = 0
  · rw [if_pos h0]
    by_cases he : e0 = 0
    · subst he
      rw [h0] at c1
      have HS := Lib.hid (show (s.1, (0 : Int)) = s by rw [← h0])
      clear r h0
      go_enter Try.func16, Try.ntmps16
      go_wp2_with fail
      go_end0
      exact ⟨rfl, by rw [HS.out]; exact HR.out, fun _ _ _ => rfl, rfl, Below.refl _ _⟩
    · rw [h0] at c1
      have H0 := Lib.hid h0
      have HE := Lib.hid he
      have hne : ((e0 : Int) == 0) = false := beq_eq_false_iff_ne.2 he
      have hne2 : ((e0 : Int) != 0) = true := by simpa using he
      obtain ⟨A, c, c0, hrw, h2, h3, h4⟩ := r.rest h0
      have HX := Lib.hid c0
      have c0' : (w.setCell ⟨h, 1, none⟩ (.int .i64 e0)).cell? ⟨h, 0, none⟩ = some (.slice A s.1.length c) := by rw [World.cell?_setCell_other _ _ _ _ (by simp)]; exact c0
      clear r h0 hrw h2 h3 h4 he
      go_enter Try.func16, Try.ntmps16
      go_wp2_with fail
      go_end0
      have r := HR.out
      refine ⟨rfl, ⟨r.lo, by simpa using r.hi, ?_, by simpa [go_sem] using r.f0, by simpa [go_sem] using r.f1, r.len, fun hz => absurd hz HE.out, fun _ => ?_⟩, ?_, by simp, ?_⟩
      · rw [World.cell?_setCell_other _ _ _ _ (by simp)]
        exact World.cell?_setCell_same _ _ _ r.c1
      · exact World.cell?_setCell_same _ _ _ c0'
      · exact (Keep.set w h 1 _).trans (Keep.set _ h 0 _) (by simp)
      · exact ((Below.refl C w).setCell r.lo _).setCell r.lo _
  · rw [if_neg h0]
    have hne : ((s.2 : Int) == 0) = false := beq_eq_false_iff_ne.2 h0
    clear r
    generalize s.2 = x at *
    go_enter Try.func16, Try.ntmps16
    go_wp2_with fail
    go_end0
    exact ⟨rfl, HR.out, fun _ _ _ => rfl, rfl, Below.refl _ _⟩

end Go.Proofs.Ytjbphkcbfhhgbaa
