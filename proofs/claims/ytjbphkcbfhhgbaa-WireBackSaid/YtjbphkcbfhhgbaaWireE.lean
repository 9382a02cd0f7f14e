/-
  Package wire: a Reader's state as plain data, and its methods on it; the chapter's example.
-/
import Derived.Test.YtjbphkcbfhhgbaaWireD
set_option linter.unusedVariables false
set_option linter.unusedSimpArgs false
namespace Go.Proofs.Ytjbphkcbfhhgbaa
open Go.RowKit

/-- All blocks but one stay. -/
def Keep (g : Nat) (w w' : World) : Prop := ∀ k, k < w.heap.size → k ≠ g → w'.heap[k]? = w.heap[k]?
theorem Keep.of_below {w w' : World} (h : Below w.heap.size w w') (g : Nat) : Keep g w w' := fun k hk _ => h.block k hk
theorem Keep.set (w : World) (g o : Nat) (v : Value) : Keep g w (w.setCell ⟨g, o, none⟩ v) := fun k _ hne => Below.heap_setCell w ⟨g, o, none⟩ v k hne
theorem keep_cell {w w' : World} {b o : Nat} (h : w'.heap[b]? = w.heap[b]?) : w'.cell? ⟨b, o, none⟩ = w.cell? ⟨b, o, none⟩ := by simp only [World.cell?, h]
theorem keep_frozen {w w' : World} {b o : Nat} (h : w'.heap[b]? = w.heap[b]?) : w'.frozen? ⟨b, o, none⟩ = w.frozen? ⟨b, o, none⟩ := by simp only [World.frozen?, h]
theorem Row.keep {w w' : World} {A : Option Addr} {n : Nat} {f : Nat → Value} {g : Nat} (h : Row w A n f) (hk : Keep g w w') (hne : ∀ b off, A = some ⟨b, off, none⟩ → 0 < n → b ≠ g) : Row w' A n f := fun k hlt => by
  obtain ⟨b, off, e, hc⟩ := h k hlt
  exact ⟨b, off, e, (keep_cell (hk b (cell_lt hc) (hne b off e (by omega)))).trans hc⟩

theorem nat_bytes (n : Nat) : n = n + 0 := rfl

/-- A number's outcome: what is returned, and what is left. -/
def numS (s : List UInt8 × Int) (m : Int) : Int × (List UInt8 × Int) :=
  if s.2 ≠ 0 then (0, s)
  else if errOf (numL 0 0 s.1) m ≠ 0 then (0, (s.1, errOf (numL 0 0 s.1) m))
  else (((numL 0 0 s.1).1 : Int), (s.1.drop (numL 0 0 s.1).2.1, 0))
def failS (s : List UInt8 × Int) (e : Int) : List UInt8 × Int := if s.2 = 0 then (s.1, e) else s
def leftS (s : List UInt8 × Int) : Nat := if s.2 = 0 then s.1.length else 0

/-- A Reader in the block g, from B on; its bytes lie below C. -/
structure ReaderIs (w : World) (g B C : Nat) (s : List UInt8 × Int) : Prop where
  lo : B ≤ g
  hi : g < C
  sz : C ≤ w.heap.size
  c0 : w.cell? ⟨g, 0, none⟩ = some (.int .i64 s.2)
  f0 : w.frozen? ⟨g, 0, none⟩ = false
  f1 : w.frozen? ⟨g, 1, none⟩ = false
  len : s.1.length ≤ 9223372036854775807
  rest : s.2 = 0 → ∃ A c, w.cell? ⟨g, 1, none⟩ = some (.slice A s.1.length c) ∧ Row w A s.1.length (BVal s.1) ∧ s.1.length ≤ c ∧ c ≤ 9223372036854775807 ∧ (∀ b off, A = some ⟨b, off, none⟩ → 0 < s.1.length → b ≠ g) ∧
    (∀ b off, A = some ⟨b, off, none⟩ → 0 < s.1.length → b < C)

theorem Row.keepC {w w' : World} {A : Option Addr} {n : Nat} {f : Nat → Value} {C : Nat} (h : Row w A n f) (hk : ∀ k, k < C → w'.heap[k]? = w.heap[k]?) (hlt : ∀ b off, A = some ⟨b, off, none⟩ → 0 < n → b < C) : Row w' A n f := fun k hn => by
  obtain ⟨b, off, e, hc⟩ := h k hn
  exact ⟨b, off, e, (keep_cell (hk b (hlt b off e (by omega)))).trans hc⟩

theorem ReaderIs.keep {w w' : World} {g B C : Nat} {s : List UInt8 × Int} (h : ReaderIs w g B C s) (hs : w.heap.size ≤ w'.heap.size) (hk : ∀ k, k < C → w'.heap[k]? = w.heap[k]?) : ReaderIs w' g B C s where
  lo := h.lo
  hi := h.hi
  sz := Nat.le_trans h.sz hs
  c0 := (keep_cell (hk g h.hi)).trans h.c0
  f0 := (keep_frozen (hk g h.hi)).trans h.f0
  f1 := (keep_frozen (hk g h.hi)).trans h.f1
  len := h.len
  rest := fun h0 => by
    obtain ⟨A, c, h1, hr, h2, h3, h4, h5⟩ := h.rest h0
    exact ⟨A, c, (keep_cell (hk g h.hi)).trans h1, hr.keepC hk h5, h2, h3, h4, h5⟩
theorem ReaderIs.below {w w' : World} {g B C : Nat} {s : List UInt8 × Int} (h : ReaderIs w g B C s) (hb : Below w.heap.size w w') : ReaderIs w' g B C s :=
  h.keep hb.size (fun k hk => hb.block k (Nat.lt_of_lt_of_le hk h.sz))
theorem ReaderIs.other {w w' : World} {g B C q : Nat} {s : List UInt8 × Int} (h : ReaderIs w g B C s) (hs : w.heap.size ≤ w'.heap.size) (hk : Keep q w w') (hq : C ≤ q) : ReaderIs w' g B C s :=
  h.keep hs (fun k hlt => hk k (Nat.lt_of_lt_of_le hlt h.sz) (by omega))

/-- After a method of a Reader. -/
def RdPost (g B C : Nat) (v : Value) (s : List UInt8 × Int) (w : World) (e : Ending) (w' : World) : Prop :=
  e = .returned v ∧ ReaderIs w' g B C s ∧ Keep g w w' ∧ w'.heap.size = w.heap.size ∧ Below B w w'

theorem below_set {B g o : Nat} {w : World} (h : B ≤ g) (v : Value) : Below B w (w.setCell ⟨g, o, none⟩ v) := (Below.refl B w).setCell h v

theorem set_err {w : World} {g B C : Nat} {s : List UInt8 × Int} (h : ReaderIs w g B C s) (e0 : Int) (hs : s.2 = 0) : ReaderIs (w.setCell ⟨g, 0, none⟩ (.int .i64 e0)) g B C (s.1, e0) where
  lo := h.lo
  hi := h.hi
  sz := by simpa using h.sz
  c0 := World.cell?_setCell_same _ _ _ h.c0
  f0 := by simpa [go_sem] using h.f0
  f1 := by simpa [go_sem] using h.f1
  len := h.len
  rest := fun h0 => by
    obtain ⟨A, c, h1, hr, h2, h3, h4, h5⟩ := h.rest hs
    refine ⟨A, c, ?_, hr.keep (Keep.set w g 0 _) h4, h2, h3, h4, h5⟩
    rw [World.cell?_setCell_other _ _ _ _ (by simp)]
    exact h1

theorem numS_bad (s : List UInt8 × Int) (m : Int) (h : s.2 ≠ 0) : numS s m = (0, s) := by unfold numS; rw [if_pos h]
theorem numS_fault (s : List UInt8 × Int) (m : Int) (h : s.2 = 0) (he : errOf (numL 0 0 s.1) m ≠ 0) : numS s m = (0, (s.1, errOf (numL 0 0 s.1) m)) := by unfold numS; rw [if_neg (by simp [h]), if_pos he]
theorem numS_ok (s : List UInt8 × Int) (m : Int) (h : s.2 = 0) (he : errOf (numL 0 0 s.1) m = 0) : numS s m = (((numL 0 0 s.1).1 : Int), (s.1.drop (numL 0 0 s.1).2.1, 0)) := by unfold numS; rw [if_neg (by simp [h]), if_neg (by simp [he])]

theorem errOf_zero {x k f : Nat} {m : Int} (h : errOf (x, k, f) m = 0) : f = 0 ∧ (x : Int) ≤ m ∧ x ≤ 1073741823 := by
  unfold errOf at h
  simp only at h
  split at h
  · split at h
    · simp at h
    · split at h
      · simp at h
      · refine ⟨by assumption, by omega, by omega⟩
  · exact absurd (by exact_mod_cast h) (by assumption)

theorem bval_drop (l : List UInt8) (k j : Nat) : BVal (l.drop k) j = BVal l (k + j) := by
  unfold BVal
  rw [List.getD_eq_getElem?_getD, List.getD_eq_getElem?_getD, List.getElem?_drop]

theorem numR_any (g B C : Nat) (m : Int) (s : List UInt8 × Int) (w : World) (h : ReaderIs w g B C s) :
    Calls Try.prog 12 #[.pointer (some ⟨g, 0, none⟩), .int .i64 m] w fun e w' => RdPost g B C (.int .i64 (numS s m).1) (numS s m).2 w e w' := by
  by_cases h0 : s.2 = 0
  · obtain ⟨A, c, h1, hr, h2, h3, h4, h5⟩ := h.rest h0
    have hR : Rd w g 0 A s.1.length c := ⟨by rw [h.c0, h0], h1, h.f0, h.f1⟩
    by_cases he : errOf (numL 0 0 s.1) m ≠ 0
    · rw [numS_fault s m h0 he]
      refine (num_fault g m s.1 A c w hR h.len hr he).mono ?_
      rintro e w' ⟨rfl, rfl⟩
      exact ⟨rfl, set_err h _ h0, Keep.set _ _ _ _, by simp, below_set h.lo _⟩
    · have he : errOf (numL 0 0 s.1) m = 0 := by simpa using he
      rw [numS_ok s m h0 he]
      obtain ⟨x, k, hxk⟩ : ∃ x k, numL 0 0 s.1 = (x, k, 0) := by
        obtain ⟨x, k, f, hr⟩ : ∃ x k f, numL 0 0 s.1 = (x, k, f) := ⟨_, _, _, rfl⟩
        rw [hr] at he
        exact ⟨x, k, by rw [hr, (errOf_zero he).1]⟩
      rw [hxk] at he ⊢
      obtain ⟨_, hm, hb⟩ := errOf_zero he
      obtain ⟨k1, k5, kn⟩ := numL_ok s.1 0 0 x k (by decide) hxk
      obtain ⟨b, off, rfl, _⟩ := hr 0 (by omega)
      refine (num_ok g m s.1 b off c x k w hR h2 h3 hr hxk hm hb).mono ?_
      rintro e w' ⟨A', c', rfl, rfl, hc1, hc2, hA⟩
      refine ⟨rfl, ⟨h.lo, h.hi, by simpa using h.sz, ?_, by simpa [go_sem] using h.f0, by simpa [go_sem] using h.f1, by simp; omega, ?_⟩, Keep.set _ _ _ _, by simp, below_set h.lo _⟩
      · rw [World.cell?_setCell_other _ _ _ _ (by simp)]
        rw [h.c0, h0]
      · intro _
        simp only [List.length_drop]
        refine ⟨A', c', World.cell?_setCell_same _ _ _ h1, ?_, hc1, hc2, ?_, ?_⟩
        · intro j hj
          rw [hA (by omega)]
          refine ⟨b, off + k, rfl, ?_⟩
          obtain ⟨b', off', e', hc'⟩ := hr (k + j) (by omega)
          injection e' with e'
          cases e'
          rw [keep_cell (Keep.set w g 1 _ b (cell_lt hc') (h4 b off rfl (by omega))), bval_drop, Nat.add_assoc]
          exact hc'
        · intro b2 off2 e2 hpos
          rw [hA (by omega)] at e2
          injection e2 with e2
          cases e2
          exact h4 b off rfl (by omega)
        · intro b2 off2 e2 hpos
          rw [hA (by omega)] at e2
          injection e2 with e2
          cases e2
          exact h5 b off rfl (by omega)
  · rw [numS_bad s m h0]
    refine (num_bad g s.2 m w h.c0 (by simpa using h0)).mono ?_
    rintro e w' ⟨rfl, rfl⟩
    exact ⟨rfl, h, fun _ _ _ => rfl, rfl, Below.refl _ _⟩

end Go.Proofs.Ytjbphkcbfhhgbaa
