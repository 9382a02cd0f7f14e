/-
  Package tape: what an operation has seen, as plain data; how it lies in memory; and that this stays.
-/
import Derived.Test.YtedkgamecdmjdaaRow
import Derived.Test.YtedkgamecdmjdaaIcells
set_option linter.unusedVariables false
set_option linter.unusedSimpArgs false
namespace Go.Proofs.Ytedkgamecdmjdaa
open Go.RowKit

/-- Answers, locals, accesses (kind, cell, value), notes (kind, at). -/
structure TS where
  ans : List Int
  loc : List Int
  acc : List (Int × Int × Int)
  nts : List (Int × Int)

def TS.asked (s : TS) (a : Int × Int × Int) : TS := { s with acc := s.acc ++ [a] }
def TS.noted (s : TS) (k : Int) : TS := { s with nts := s.nts ++ [(k, (s.acc.length : Int))] }
def TS.told (s : TS) : Int := s.ans.getD s.acc.length 0
def TS.get (s : TS) (at' : Int) : Int := if at' < 0 ∨ (s.loc.length : Int) ≤ at' then 0 else s.loc.getD at'.toNat 0
def TS.set (s : TS) (at' v : Int) : TS :=
  if at' < 0 ∨ 32768 ≤ at' then s
  else if (s.loc.length : Int) ≤ at' then (if v = 0 then s else { s with loc := (s.loc ++ List.replicate (at'.toNat + 1 - s.loc.length) 0).set at'.toNat v })
  else { s with loc := s.loc.set at'.toNat v }

def acells (l : List (Int × Int × Int)) : List Value := l.flatMap fun a => [.int .i64 a.1, .int .i64 a.2.1, .int .i64 a.2.2]
def ncells (l : List (Int × Int)) : List Value := l.flatMap fun a => [.int .i64 a.1, .int .i64 a.2]
theorem acells_append (l m : List (Int × Int × Int)) : acells (l ++ m) = acells l ++ acells m := by unfold acells; rw [List.flatMap_append]
theorem ncells_append (l m : List (Int × Int)) : ncells (l ++ m) = ncells l ++ ncells m := by unfold ncells; rw [List.flatMap_append]

/-- A block that the tape does not call its own: it lies below B, or it is no row of ints, accesses or notes. -/
def Far (B : Nat) (w : World) (k : Nat) : Prop := B ≤ k → ∀ cs e, w.heap[k]? = some (.cells cs e (0, 0)) → e ≠ 3 ∧ e ≠ 55 ∧ e ≠ 79
/-- All blocks but g and the tape's own rows stay; and the outside world. -/
structure TK (g B : Nat) (w w' : World) : Prop where
  os : w'.os = w.os
  tape : w'.tape = w.tape
  output : w'.output = w.output
  size : w.heap.size ≤ w'.heap.size
  block : ∀ k, k < w.heap.size → k ≠ g → Far B w k → w'.heap[k]? = w.heap[k]?

theorem Far.low {B k : Nat} {w : World} (h : k < B) : Far B w k := fun hB => by omega
theorem Far.keep {B k : Nat} {w w' : World} (h : Far B w k) (he : w'.heap[k]? = w.heap[k]?) : Far B w' k := fun hB cs e hh => h hB cs e (he ▸ hh)
theorem TK.refl (g B : Nat) (w : World) : TK g B w w := ⟨rfl, rfl, rfl, Nat.le_refl _, fun _ _ _ _ => rfl⟩
theorem TK.trans {g B : Nat} {a b c : World} (h : TK g B a b) (k : TK g B b c) : TK g B a c :=
  ⟨k.os.trans h.os, k.tape.trans h.tape, k.output.trans h.output, Nat.le_trans h.size k.size, fun i h1 h2 h3 =>
    have e := h.block i h1 h2 h3
    (k.block i (Nat.lt_of_lt_of_le h1 h.size) h2 (h3.keep e)).trans e⟩
theorem TK.ofUp {g B : Nat} {a w : World} (h : Up a w) : TK g B a w := ⟨h.os, h.tape, h.output, h.size, fun k hk _ _ => h.block k hk⟩
theorem TK.drew {g B : Nat} {a w : World} (h : TK g B a w) : TK g B a w.drew := h.trans (TK.ofUp (Up.refl w).drew)
theorem TK.alloc {g B : Nat} {a w : World} (h : TK g B a w) (o : Obj) : TK g B a (w.alloc o) := h.trans (TK.ofUp ((Up.refl w).alloc o))
theorem TK.setCell {g B : Nat} {a w : World} (h : TK g B a w) {j : Nat} (u : Value) : TK g B a (w.setCell ⟨g, j, none⟩ u) :=
  h.trans ⟨rfl, rfl, rfl, by simp, fun k _ hne _ => Below.heap_setCell w ⟨g, j, none⟩ u k hne⟩
theorem TK.grown {g B : Nat} {a w w' : World} {e : TypeId} {size n : Nat} {v : Value} {xs : List Value} (h : TK g B a w) (hown : w.ownsRow B e size v n xs) (he : e = 3 ∨ e = 55 ∨ e = 79) (hg : w.grownBy w' v.ownBlock) : TK g B a w' :=
  h.trans ⟨hg.os, hg.tape, hg.output, hg.size, fun k hk _ hf => hg.block k hk (fun ek => by
    rcases hown.2 with ⟨rfl, _⟩ | ⟨g', cap, cur, rfl, hb, h2, _⟩
    · simp [Value.ownBlock] at ek
    · simp only [Value.ownBlock, Option.some.injEq] at ek
      subst ek
      have := hf hb cur e h2
      rcases he with rfl | rfl | rfl <;> simp at this)⟩
theorem TK.below {g B N : Nat} {a w : World} (h : TK g B a w) (hN : N ≤ B) (hg : N ≤ g) (hs : N ≤ a.heap.size) : Below N a w :=
  ⟨h.os, h.tape, h.output, h.size, fun k hk => h.block k (by omega) (by omega) (Far.low (by omega))⟩

theorem tcell {w w' : World} {b o : Nat} (h : w'.heap[b]? = w.heap[b]?) : w'.cell? ⟨b, o, none⟩ = w.cell? ⟨b, o, none⟩ := by simp only [World.cell?, h]
theorem tfrozen {w w' : World} {b o : Nat} (h : w'.heap[b]? = w.heap[b]?) : w'.frozen? ⟨b, o, none⟩ = w.frozen? ⟨b, o, none⟩ := by simp only [World.frozen?, h]

structure TapeIs (w : World) (g B : Nat) (st : Int) (s : TS) : Prop where
  gB : g < B
  sz : B ≤ w.heap.size
  c0 : w.cell? ⟨g, 0, none⟩ = some (.int .i64 st)
  fz : ∀ j, w.frozen? ⟨g, j, none⟩ = false
  ans : ∃ A c, w.cell? ⟨g, 1, none⟩ = some (.slice A s.ans.length c) ∧ Row w A s.ans.length (IVal s.ans) ∧ (∀ b off, A = some ⟨b, off, none⟩ → 0 < s.ans.length → b + 3 ≤ g)
  loc : ∃ v, w.cell? ⟨g, 2, none⟩ = some v ∧ w.ownsRow B 3 1 v s.loc.length (icells s.loc)
  acc : ∃ v, w.cell? ⟨g, 3, none⟩ = some v ∧ w.ownsRow B 55 3 v s.acc.length (acells s.acc)
  nts : ∃ v, w.cell? ⟨g, 4, none⟩ = some v ∧ w.ownsRow B 79 2 v s.nts.length (ncells s.nts)
  la : s.acc.length ≤ s.ans.length + 1
  lb : s.ans.length ≤ 1000000
  ll : s.loc.length ≤ 32768

/-- What stays where all blocks but some row of other elements stay. -/
theorem own_keep {w w' : World} {B e size n : Nat} {v : Value} {xs : List Value} (h : w.ownsRow B e size v n xs) (hk : ∀ k cs, B ≤ k → w.heap[k]? = some (.cells cs e (0, 0)) → w'.heap[k]? = w.heap[k]?) : w'.ownsRow B e size v n xs := by
  rcases h.2 with ⟨hv, hn⟩ | ⟨g, cap, cur, hv, hg, hh, hr⟩
  · exact ⟨h.1, .inl ⟨hv, hn⟩⟩
  · exact ⟨h.1, .inr ⟨g, cap, cur, hv, hg, (hk g cur hg hh).trans hh, hr⟩⟩
theorem row_keep {w w' : World} {A : Option Addr} {n : Nat} {f : Nat → Value} (h : Row w A n f) (hk : ∀ b off, A = some ⟨b, off, none⟩ → 0 < n → w'.heap[b]? = w.heap[b]?) : Row w' A n f := fun k hlt => by
  obtain ⟨b, off, e, hc⟩ := h k hlt
  exact ⟨b, off, e, (tcell (hk b off e (by omega))).trans hc⟩

theorem own_up {w w' : World} {B e size n : Nat} {v : Value} {xs : List Value} (h : w.ownsRow B e size v n xs) (hb : Up w w') : w'.ownsRow B e size v n xs := own_keep h fun k cs _ hh => hb.block k (Array.getElem?_eq_some_iff.1 hh).1
theorem TapeIs.gs {w : World} {g B : Nat} {st : Int} {s : TS} (h : TapeIs w g B st s) : g < w.heap.size := Nat.lt_of_lt_of_le h.gB h.sz
theorem own_form {w : World} {B e size n : Nat} {v : Value} {xs : List Value} (h : w.ownsRow B e size v n xs) : ∃ A c, v = .slice A n c ∧ n ≤ c ∧ c ≤ 9223372036854775807 := by
  rcases h.2 with ⟨rfl, rfl⟩ | ⟨g, cap, cur, rfl, _, _, h1, h2, _⟩
  · exact ⟨none, 0, rfl, Nat.le_refl _, by decide⟩
  · exact ⟨_, cap, rfl, h1, by unfold maxLen at h2; omega⟩
/-- All that is below the heap's end stays. -/
theorem TapeIs.up {w w' : World} {g B : Nat} {st : Int} {s : TS} (h : TapeIs w g B st s) (hb : Up w w') : TapeIs w' g B st s := by
  have hk : ∀ k, k < w.heap.size → w'.heap[k]? = w.heap[k]? := hb.block
  have hg := hk g (Nat.lt_of_lt_of_le h.gB h.sz)
  have hrow : ∀ e k cs, B ≤ k → w.heap[k]? = some (.cells cs e (0, 0)) → w'.heap[k]? = w.heap[k]? := fun e k cs _ hh => hk k (Array.getElem?_eq_some_iff.1 hh).1
  refine ⟨h.gB, Nat.le_trans h.sz hb.size, (tcell hg).trans h.c0, fun j => (tfrozen hg).trans (h.fz j), ?_, ?_, ?_, ?_, h.la, h.lb, h.ll⟩
  · obtain ⟨A, c, h1, h2, h3⟩ := h.ans
    exact ⟨A, c, (tcell hg).trans h1, h2.up hb, h3⟩
  · obtain ⟨v, h1, h2⟩ := h.loc
    exact ⟨v, (tcell hg).trans h1, own_keep h2 (hrow _)⟩
  · obtain ⟨v, h1, h2⟩ := h.acc
    exact ⟨v, (tcell hg).trans h1, own_keep h2 (hrow _)⟩
  · obtain ⟨v, h1, h2⟩ := h.nts
    exact ⟨v, (tcell hg).trans h1, own_keep h2 (hrow _)⟩
theorem TapeIs.alloc {w : World} {g B : Nat} {st : Int} {s : TS} (h : TapeIs w g B st s) (o : Obj) : TapeIs (w.alloc o) g B st s := h.up ((Up.refl w).alloc o)
theorem TapeIs.drew {w : World} {g B : Nat} {st : Int} {s : TS} (h : TapeIs w g B st s) : TapeIs w.drew g B st s := h.up (Up.refl w).drew

/-- The state is set. -/
theorem TapeIs.state {w : World} {g B : Nat} {st : Int} {s : TS} (h : TapeIs w g B st s) (st' : Int) : TapeIs (w.setCell ⟨g, 0, none⟩ (.int .i64 st')) g B st' s := by
  have hk : ∀ k, k ≠ g → (w.setCell ⟨g, 0, none⟩ (.int .i64 st')).heap[k]? = w.heap[k]? := fun k hne => Below.heap_setCell w ⟨g, 0, none⟩ _ k hne
  have hrow : ∀ e k cs, B ≤ k → w.heap[k]? = some (.cells cs e (0, 0)) → (w.setCell ⟨g, 0, none⟩ (.int .i64 st')).heap[k]? = w.heap[k]? := fun e k cs hB _ => hk k (by have := h.gB; omega)
  refine ⟨h.gB, by simpa using h.sz, World.cell?_setCell_same _ _ _ h.c0, fun j => by simpa [go_sem] using h.fz j, ?_, ?_, ?_, ?_, h.la, h.lb, h.ll⟩
  · obtain ⟨A, c, h1, h2, h3⟩ := h.ans
    exact ⟨A, c, (World.cell?_setCell_other _ _ _ _ (by simp)).trans h1, row_keep h2 (fun b off e hp => hk b (by have := h3 b off e hp; omega)), h3⟩
  · obtain ⟨v, h1, h2⟩ := h.loc
    exact ⟨v, (World.cell?_setCell_other _ _ _ _ (by simp)).trans h1, own_keep h2 (hrow _)⟩
  · obtain ⟨v, h1, h2⟩ := h.acc
    exact ⟨v, (World.cell?_setCell_other _ _ _ _ (by simp)).trans h1, own_keep h2 (hrow _)⟩
  · obtain ⟨v, h1, h2⟩ := h.nts
    exact ⟨v, (World.cell?_setCell_other _ _ _ _ (by simp)).trans h1, own_keep h2 (hrow _)⟩

/-- A row of one element type grows: rows of other elements stay. -/
theorem grown_hk {w w1 : World} {B e e' size n : Nat} {v : Value} {xs : List Value} (hown : w.ownsRow B e size v n xs) (hg : w.grownBy w1 v.ownBlock) (hne : e' ≠ e) :
    ∀ k cs, B ≤ k → w.heap[k]? = some (.cells cs e' (0, 0)) → w1.heap[k]? = w.heap[k]? := fun k cs _ hh => by
  refine hg.block k (Array.getElem?_eq_some_iff.1 hh).1 ?_
  intro he
  rcases hown.2 with ⟨rfl, _⟩ | ⟨g, cap, cur, rfl, _, h2, _⟩
  · simp [Value.ownBlock] at he
  · simp only [Value.ownBlock, Option.some.injEq] at he
    subst he
    rw [h2] at hh
    simp only [Option.some.injEq, Obj.cells.injEq] at hh
    exact hne hh.2.1.symm

/-- An access is told. -/
theorem TapeIs.pushA {w w1 : World} {g B : Nat} {st : Int} {s : TS} (h : TapeIs w g B st s) (a : Int × Int × Int) {v v1 : Value} (hc : w.cell? ⟨g, 3, none⟩ = some v) (hla : s.acc.length ≤ s.ans.length)
    (hown : w.ownsRow B 55 3 v s.acc.length (acells s.acc)) (hg : w.grownBy w1 v.ownBlock) (hown1 : w1.ownsRow B 55 3 v1 (s.acc.length + 1) (acells (s.acc ++ [a]))) :
    TapeIs (w1.setCell ⟨g, 3, none⟩ v1) g B st (s.asked a) := by
  have hgB := h.gB
  have hge : ∀ k, v.ownBlock = some k → B ≤ k := own_ge hown
  have hlow : ∀ k, k < B → w1.heap[k]? = w.heap[k]? := fun k hk => hg.block k (Nat.lt_of_lt_of_le hk h.sz) (fun e => by have := hge k e.symm; omega)
  have hgg := hlow g hgB
  have hset : ∀ k, k ≠ g → (w1.setCell ⟨g, 3, none⟩ v1).heap[k]? = w1.heap[k]? := fun k hne => Below.heap_setCell w1 ⟨g, 3, none⟩ _ k hne
  have hrow : ∀ e', e' ≠ 55 → ∀ k cs, B ≤ k → w.heap[k]? = some (.cells cs e' (0, 0)) → (w1.setCell ⟨g, 3, none⟩ v1).heap[k]? = w.heap[k]? := fun e' hne k cs hB hh => (hset k (by omega)).trans (grown_hk hown hg hne k cs hB hh)
  have hcell : ∀ j, j ≠ 3 → (w1.setCell ⟨g, 3, none⟩ v1).cell? ⟨g, j, none⟩ = w.cell? ⟨g, j, none⟩ := fun j hj => (World.cell?_setCell_other _ _ _ _ (by simp <;> omega)).trans (tcell hgg)
  refine ⟨hgB, Nat.le_trans h.sz (by simpa using hg.size), (hcell 0 (by decide)).trans h.c0, fun j => ?_, ?_, ?_, ?_, ?_, by simp [TS.asked]; omega, h.lb, h.ll⟩
  · have := (tfrozen (o := j) hgg).trans (h.fz j)
    simpa [go_sem] using this
  · obtain ⟨A, c, h1, h2, h3⟩ := h.ans
    exact ⟨A, c, (hcell 1 (by decide)).trans h1, row_keep h2 (fun b off e hp => (hset b (by have := h3 b off e hp; omega)).trans (hlow b (by have := h3 b off e hp; omega))), h3⟩
  · obtain ⟨v2, h1, h2⟩ := h.loc
    exact ⟨v2, (hcell 2 (by decide)).trans h1, own_keep h2 (hrow _ (by decide))⟩
  · refine ⟨v1, World.cell?_setCell_same _ _ _ ((tcell hgg).trans hc), ?_⟩
    have := own_keep (w' := w1.setCell ⟨g, 3, none⟩ v1) hown1 (fun k cs hB _ => hset k (by omega))
    simpa [TS.asked] using this
  · obtain ⟨v2, h1, h2⟩ := h.nts
    exact ⟨v2, (hcell 4 (by decide)).trans h1, own_keep h2 (hrow _ (by decide))⟩

/-- A note is left. -/
theorem TapeIs.pushN {w w1 : World} {g B : Nat} {st : Int} {s : TS} (h : TapeIs w g B st s) (k0 : Int) {v v1 : Value} (hc : w.cell? ⟨g, 4, none⟩ = some v)
    (hown : w.ownsRow B 79 2 v s.nts.length (ncells s.nts)) (hg : w.grownBy w1 v.ownBlock) (hown1 : w1.ownsRow B 79 2 v1 (s.nts.length + 1) (ncells (s.nts ++ [(k0, (s.acc.length : Int))]))) :
    TapeIs (w1.setCell ⟨g, 4, none⟩ v1) g B st (s.noted k0) := by
  have hgB := h.gB
  have hge : ∀ k, v.ownBlock = some k → B ≤ k := own_ge hown
  have hlow : ∀ k, k < B → w1.heap[k]? = w.heap[k]? := fun k hk => hg.block k (Nat.lt_of_lt_of_le hk h.sz) (fun e => by have := hge k e.symm; omega)
  have hgg := hlow g hgB
  have hset : ∀ k, k ≠ g → (w1.setCell ⟨g, 4, none⟩ v1).heap[k]? = w1.heap[k]? := fun k hne => Below.heap_setCell w1 ⟨g, 4, none⟩ _ k hne
  have hrow : ∀ e', e' ≠ 79 → ∀ k cs, B ≤ k → w.heap[k]? = some (.cells cs e' (0, 0)) → (w1.setCell ⟨g, 4, none⟩ v1).heap[k]? = w.heap[k]? := fun e' hne k cs hB hh => (hset k (by omega)).trans (grown_hk hown hg hne k cs hB hh)
  have hcell : ∀ j, j ≠ 4 → (w1.setCell ⟨g, 4, none⟩ v1).cell? ⟨g, j, none⟩ = w.cell? ⟨g, j, none⟩ := fun j hj => (World.cell?_setCell_other _ _ _ _ (by simp <;> omega)).trans (tcell hgg)
  refine ⟨hgB, Nat.le_trans h.sz (by simpa using hg.size), (hcell 0 (by decide)).trans h.c0, fun j => ?_, ?_, ?_, ?_, ?_, h.la, h.lb, h.ll⟩
  · have := (tfrozen (o := j) hgg).trans (h.fz j)
    simpa [go_sem] using this
  · obtain ⟨A, c, h1, h2, h3⟩ := h.ans
    exact ⟨A, c, (hcell 1 (by decide)).trans h1, row_keep h2 (fun b off e hp => (hset b (by have := h3 b off e hp; omega)).trans (hlow b (by have := h3 b off e hp; omega))), h3⟩
  · obtain ⟨v2, h1, h2⟩ := h.loc
    exact ⟨v2, (hcell 2 (by decide)).trans h1, own_keep h2 (hrow _ (by decide))⟩
  · obtain ⟨v2, h1, h2⟩ := h.acc
    exact ⟨v2, (hcell 3 (by decide)).trans h1, own_keep h2 (hrow _ (by decide))⟩
  · refine ⟨v1, World.cell?_setCell_same _ _ _ ((tcell hgg).trans hc), ?_⟩
    have := own_keep (w' := w1.setCell ⟨g, 4, none⟩ v1) hown1 (fun k cs hB _ => hset k (by omega))
    simpa [TS.noted] using this

/-- New locals. -/
theorem TapeIs.newL {w w1 : World} {g B : Nat} {st : Int} {s : TS} (h : TapeIs w g B st s) (l : List Int) (hl : l.length ≤ 32768) {v1 : Value}
    (hk : ∀ k, k < w.heap.size → (∀ cs, B ≤ k → w.heap[k]? ≠ some (.cells cs 3 (0, 0))) → w1.heap[k]? = w.heap[k]?) (hs : w.heap.size ≤ w1.heap.size) (hown1 : w1.ownsRow B 3 1 v1 l.length (icells l)) :
    TapeIs (w1.setCell ⟨g, 2, none⟩ v1) g B st { s with loc := l } := by
  have hgB := h.gB
  have hlow : ∀ k, k < B → w1.heap[k]? = w.heap[k]? := fun k hkB => hk k (Nat.lt_of_lt_of_le hkB h.sz) (fun cs hb => by omega)
  have hgg := hlow g hgB
  have hset : ∀ k, k ≠ g → (w1.setCell ⟨g, 2, none⟩ v1).heap[k]? = w1.heap[k]? := fun k hne => Below.heap_setCell w1 ⟨g, 2, none⟩ _ k hne
  have hrow : ∀ e', e' ≠ 3 → ∀ k cs, B ≤ k → w.heap[k]? = some (.cells cs e' (0, 0)) → (w1.setCell ⟨g, 2, none⟩ v1).heap[k]? = w.heap[k]? := fun e' hne k cs hB hh => (hset k (by omega)).trans (hk k (Array.getElem?_eq_some_iff.1 hh).1 (fun cs' _ h' => by
    rw [hh] at h'
    simp only [Option.some.injEq, Obj.cells.injEq] at h'
    exact hne h'.2.1))
  have hcell : ∀ j, j ≠ 2 → (w1.setCell ⟨g, 2, none⟩ v1).cell? ⟨g, j, none⟩ = w.cell? ⟨g, j, none⟩ := fun j hj => (World.cell?_setCell_other _ _ _ _ (by simp <;> omega)).trans (tcell hgg)
  refine ⟨hgB, Nat.le_trans h.sz (by simpa using hs), (hcell 0 (by decide)).trans h.c0, fun j => ?_, ?_, ?_, ?_, ?_, h.la, h.lb, hl⟩
  · have := (tfrozen (o := j) hgg).trans (h.fz j)
    simpa [go_sem] using this
  · obtain ⟨A, c, h1, h2, h3⟩ := h.ans
    exact ⟨A, c, (hcell 1 (by decide)).trans h1, row_keep h2 (fun b off e hp => (hset b (by have := h3 b off e hp; omega)).trans (hlow b (by have := h3 b off e hp; omega))), h3⟩
  · obtain ⟨v2, h1, h2⟩ := h.loc
    exact ⟨v1, World.cell?_setCell_same _ _ _ ((tcell hgg).trans h1), own_keep hown1 (fun k cs hB _ => hset k (by omega))⟩
  · obtain ⟨v2, h1, h2⟩ := h.acc
    exact ⟨v2, (hcell 3 (by decide)).trans h1, own_keep h2 (hrow _ (by decide))⟩
  · obtain ⟨v2, h1, h2⟩ := h.nts
    exact ⟨v2, (hcell 4 (by decide)).trans h1, own_keep h2 (hrow _ (by decide))⟩

end Go.Proofs.Ytedkgamecdmjdaa
