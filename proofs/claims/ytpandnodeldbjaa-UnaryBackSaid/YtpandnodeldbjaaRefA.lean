/-
  The document's Mem: its state as plain data, in memory.
-/
import Derived.Test.YtpandnodeldbjaaTapeE
set_option linter.unusedVariables false
set_option linter.unusedSimpArgs false
namespace Go.Proofs.Ytpandnodeldbjaa
open Go.RowKit

structure RS where
  t : TS
  over : Bool

def rAsk (a : Int × Int × Int) (r : RS) : Int × RS :=
  if r.over then (0, r) else if r.t.acc.length < r.t.ans.length then (r.t.told, ⟨r.t.asked a, false⟩) else (0, ⟨r.t.asked a, true⟩)
def rNote (k : Int) (r : RS) : RS := if r.over then r else ⟨r.t.noted k, false⟩
def rSet (i x : Int) (r : RS) : RS := if r.over = true ∨ i < 0 ∨ 32767 < i then r else ⟨{ r.t with loc := (r.t.loc ++ List.replicate (i.toNat + 1 - r.t.loc.length) 0).set i.toNat x }, false⟩

/-- The slices of a Mem. -/
structure RefC (w : World) (h B : Nat) (s : TS) : Prop where
  hB : B ≤ h
  ty : ∃ cs, w.heap[h]? = some (.cells cs 54 (0, 0))
  sz : B ≤ w.heap.size
  fz : ∀ j, w.frozen? ⟨h, j, none⟩ = false
  ans : ∃ A c, w.cell? ⟨h, 0, none⟩ = some (.slice A s.ans.length c) ∧ Row w A s.ans.length (IVal s.ans) ∧ (∀ b off, A = some ⟨b, off, none⟩ → 0 < s.ans.length → b < B)
  acc : ∃ v, w.cell? ⟨h, 3, none⟩ = some v ∧ w.ownsRow B 45 3 v s.acc.length (acells s.acc)
  nts : ∃ v, w.cell? ⟨h, 4, none⟩ = some v ∧ w.ownsRow B 47 2 v s.nts.length (ncells s.nts)
  loc : ∃ v, w.cell? ⟨h, 5, none⟩ = some v ∧ w.ownsRow B 3 1 v s.loc.length (icells s.loc)
  lb : s.ans.length ≤ 1000000
  ll : s.loc.length ≤ 32768
structure RefIs (w : World) (h B : Nat) (r : RS) : Prop where
  c : RefC w h B r.t
  at' : w.cell? ⟨h, 1, none⟩ = some (.int .i64 (min r.t.acc.length r.t.ans.length : Nat))
  ov : w.cell? ⟨h, 2, none⟩ = some (.bool r.over)
  lf : r.over = false → r.t.acc.length ≤ r.t.ans.length
  lt : r.over = true → r.t.acc.length = r.t.ans.length + 1

theorem RefC.hs {w : World} {h B : Nat} {s : TS} (r : RefC w h B s) : h < w.heap.size := by
  obtain ⟨cs, hh⟩ := r.ty
  exact (Array.getElem?_eq_some_iff.1 hh).1
theorem own_apart {w : World} {B h e size n : Nat} {v : Value} {xs : List Value} {cs : Array Value} (hh : w.heap[h]? = some (.cells cs 54 (0, 0))) (hown : w.ownsRow B e size v n xs) (he : e ≠ 54) : some h ≠ v.ownBlock := fun eq => by
  rcases hown.2 with ⟨rfl, _⟩ | ⟨g, cap, cur, rfl, _, h2, _⟩
  · simp [Value.ownBlock] at eq
  · simp only [Value.ownBlock, Option.some.injEq] at eq
    subst eq
    rw [hh] at h2
    simp only [Option.some.injEq, Obj.cells.injEq] at h2
    exact he h2.2.1.symm
theorem ty_set {w : World} {h j : Nat} {v : Value} {t : TypeId} (hh : ∃ cs, w.heap[h]? = some (.cells cs t (0, 0))) : ∃ cs, (w.setCell ⟨h, j, none⟩ v).heap[h]? = some (.cells cs t (0, 0)) := by
  obtain ⟨cs, hh⟩ := hh
  exact ⟨_, heap_setCell_same w h j cs t v hh⟩
/-- A row of other elements is not the Mem's block. -/
theorem ne_row {w : World} {h k : Nat} {e : TypeId} {cs : Array Value} (hh : ∃ cs, w.heap[h]? = some (.cells cs 54 (0, 0))) (hk : w.heap[k]? = some (.cells cs e (0, 0))) (he : e ≠ 54) : k ≠ h := fun eq => by
  subst eq
  obtain ⟨cs', hh⟩ := hh
  rw [hh] at hk
  simp only [Option.some.injEq, Obj.cells.injEq] at hk
  exact he hk.2.1.symm
theorem RefC.up {w w' : World} {h B : Nat} {s : TS} (r : RefC w h B s) (hb : Up w w') : RefC w' h B s := by
  have hg := hb.block h r.hs
  refine ⟨r.hB, by obtain ⟨cs, hh⟩ := r.ty; exact ⟨cs, hg.trans hh⟩, Nat.le_trans r.sz hb.size, fun j => (tfrozen hg).trans (r.fz j), ?_, ?_, ?_, ?_, r.lb, r.ll⟩
  · obtain ⟨A, c, h1, h2, h3⟩ := r.ans
    exact ⟨A, c, (tcell hg).trans h1, h2.up hb, h3⟩
  · obtain ⟨v, h1, h2⟩ := r.acc
    exact ⟨v, (tcell hg).trans h1, own_up h2 hb⟩
  · obtain ⟨v, h1, h2⟩ := r.nts
    exact ⟨v, (tcell hg).trans h1, own_up h2 hb⟩
  · obtain ⟨v, h1, h2⟩ := r.loc
    exact ⟨v, (tcell hg).trans h1, own_up h2 hb⟩
theorem RefIs.up {w w' : World} {h B : Nat} {r : RS} (R : RefIs w h B r) (hb : Up w w') : RefIs w' h B r :=
  ⟨R.c.up hb, (hb.cell (p := ⟨h, 1, none⟩) R.c.hs).trans R.at', (hb.cell (p := ⟨h, 2, none⟩) R.c.hs).trans R.ov, R.lf, R.lt⟩

/-- A store into the counter or the mark. -/
theorem RefC.side {w : World} {h B : Nat} {s : TS} (r : RefC w h B s) (j : Nat) (hj : j = 1 ∨ j = 2) (v : Value) : RefC (w.setCell ⟨h, j, none⟩ v) h B s := by
  have hB := r.hB
  have hk : ∀ k, k ≠ h → (w.setCell ⟨h, j, none⟩ v).heap[k]? = w.heap[k]? := fun k hne => Below.heap_setCell w ⟨h, j, none⟩ _ k hne
  have hc : ∀ i, i ≠ j → (w.setCell ⟨h, j, none⟩ v).cell? ⟨h, i, none⟩ = w.cell? ⟨h, i, none⟩ := fun i hi => World.cell?_setCell_other _ _ _ _ (by simp <;> omega)
  have hrow : ∀ e, e ≠ 54 → ∀ k cs, B ≤ k → w.heap[k]? = some (.cells cs e (0, 0)) → (w.setCell ⟨h, j, none⟩ v).heap[k]? = w.heap[k]? := fun e he k cs hB hh => hk k (ne_row r.ty hh he)
  refine ⟨r.hB, ty_set r.ty, by simpa using r.sz, fun i => by simpa [go_sem] using r.fz i, ?_, ?_, ?_, ?_, r.lb, r.ll⟩
  · obtain ⟨A, c, h1, h2, h3⟩ := r.ans
    exact ⟨A, c, (hc 0 (by omega)).trans h1, row_keep h2 (fun b off e hp => hk b (by have := h3 b off e hp; omega)), h3⟩
  · obtain ⟨v, h1, h2⟩ := r.acc
    exact ⟨v, (hc 3 (by omega)).trans h1, own_keep h2 (hrow _ (by decide))⟩
  · obtain ⟨v, h1, h2⟩ := r.nts
    exact ⟨v, (hc 4 (by omega)).trans h1, own_keep h2 (hrow _ (by decide))⟩
  · obtain ⟨v, h1, h2⟩ := r.loc
    exact ⟨v, (hc 5 (by omega)).trans h1, own_keep h2 (hrow _ (by decide))⟩

theorem RefC.pushA {w w1 : World} {h B : Nat} {s : TS} (r : RefC w h B s) (a : Int × Int × Int) {v v1 : Value} (hc : w.cell? ⟨h, 3, none⟩ = some v)
    (hown : w.ownsRow B 45 3 v s.acc.length (acells s.acc)) (hg : w.grownBy w1 v.ownBlock) (hown1 : w1.ownsRow B 45 3 v1 (s.acc.length + 1) (acells (s.acc ++ [a]))) :
    RefC (w1.setCell ⟨h, 3, none⟩ v1) h B (s.asked a) := by
  have hB := r.hB
  have hge : ∀ k, v.ownBlock = some k → B ≤ k := own_ge hown
  have hlow : ∀ k, k < B → w1.heap[k]? = w.heap[k]? := fun k hk => hg.block k (Nat.lt_of_lt_of_le hk r.sz) (fun e => by have := hge k e.symm; omega)
  have hgg : w1.heap[h]? = w.heap[h]? := by obtain ⟨cs, hh⟩ := r.ty; exact hg.block h r.hs (own_apart hh hown (by decide))
  have hty1 : ∃ cs, w1.heap[h]? = some (.cells cs 54 (0, 0)) := by obtain ⟨cs, hh⟩ := r.ty; exact ⟨cs, hgg.trans hh⟩
  have hset : ∀ k, k ≠ h → (w1.setCell ⟨h, 3, none⟩ v1).heap[k]? = w1.heap[k]? := fun k hne => Below.heap_setCell w1 ⟨h, 3, none⟩ _ k hne
  have hrow : ∀ e', e' ≠ 45 → e' ≠ 54 → ∀ k cs, B ≤ k → w.heap[k]? = some (.cells cs e' (0, 0)) → (w1.setCell ⟨h, 3, none⟩ v1).heap[k]? = w.heap[k]? := fun e' hne hnm k cs hB hh => (hset k (ne_row r.ty hh hnm)).trans (grown_hk hown hg hne k cs hB hh)
  have hcell : ∀ j, j ≠ 3 → (w1.setCell ⟨h, 3, none⟩ v1).cell? ⟨h, j, none⟩ = w.cell? ⟨h, j, none⟩ := fun j hj => (World.cell?_setCell_other _ _ _ _ (by simp <;> omega)).trans (tcell hgg)
  refine ⟨hB, ty_set hty1, Nat.le_trans r.sz (by simpa using hg.size), fun j => ?_, ?_, ?_, ?_, ?_, r.lb, r.ll⟩
  · have := (tfrozen (o := j) hgg).trans (r.fz j)
    simpa [go_sem] using this
  · obtain ⟨A, c, h1, h2, h3⟩ := r.ans
    exact ⟨A, c, (hcell 0 (by decide)).trans h1, row_keep h2 (fun b off e hp => (hset b (by have := h3 b off e hp; omega)).trans (hlow b (h3 b off e hp))), h3⟩
  · refine ⟨v1, World.cell?_setCell_same _ _ _ ((tcell hgg).trans hc), ?_⟩
    have := own_keep (w' := w1.setCell ⟨h, 3, none⟩ v1) hown1 (fun k cs hB hh => hset k (ne_row hty1 hh (by decide)))
    simpa [TS.asked] using this
  · obtain ⟨v2, h1, h2⟩ := r.nts
    exact ⟨v2, (hcell 4 (by decide)).trans h1, own_keep h2 (hrow _ (by decide) (by decide))⟩
  · obtain ⟨v2, h1, h2⟩ := r.loc
    exact ⟨v2, (hcell 5 (by decide)).trans h1, own_keep h2 (hrow _ (by decide) (by decide))⟩

theorem RefC.pushN {w w1 : World} {h B : Nat} {s : TS} (r : RefC w h B s) (k0 : Int) {v v1 : Value} (hc : w.cell? ⟨h, 4, none⟩ = some v)
    (hown : w.ownsRow B 47 2 v s.nts.length (ncells s.nts)) (hg : w.grownBy w1 v.ownBlock) (hown1 : w1.ownsRow B 47 2 v1 (s.nts.length + 1) (ncells (s.nts ++ [(k0, (s.acc.length : Int))]))) :
    RefC (w1.setCell ⟨h, 4, none⟩ v1) h B (s.noted k0) := by
  have hB := r.hB
  have hge : ∀ k, v.ownBlock = some k → B ≤ k := own_ge hown
  have hlow : ∀ k, k < B → w1.heap[k]? = w.heap[k]? := fun k hk => hg.block k (Nat.lt_of_lt_of_le hk r.sz) (fun e => by have := hge k e.symm; omega)
  have hgg : w1.heap[h]? = w.heap[h]? := by obtain ⟨cs, hh⟩ := r.ty; exact hg.block h r.hs (own_apart hh hown (by decide))
  have hty1 : ∃ cs, w1.heap[h]? = some (.cells cs 54 (0, 0)) := by obtain ⟨cs, hh⟩ := r.ty; exact ⟨cs, hgg.trans hh⟩
  have hset : ∀ k, k ≠ h → (w1.setCell ⟨h, 4, none⟩ v1).heap[k]? = w1.heap[k]? := fun k hne => Below.heap_setCell w1 ⟨h, 4, none⟩ _ k hne
  have hrow : ∀ e', e' ≠ 47 → e' ≠ 54 → ∀ k cs, B ≤ k → w.heap[k]? = some (.cells cs e' (0, 0)) → (w1.setCell ⟨h, 4, none⟩ v1).heap[k]? = w.heap[k]? := fun e' hne hnm k cs hB hh => (hset k (ne_row r.ty hh hnm)).trans (grown_hk hown hg hne k cs hB hh)
  have hcell : ∀ j, j ≠ 4 → (w1.setCell ⟨h, 4, none⟩ v1).cell? ⟨h, j, none⟩ = w.cell? ⟨h, j, none⟩ := fun j hj => (World.cell?_setCell_other _ _ _ _ (by simp <;> omega)).trans (tcell hgg)
  refine ⟨hB, ty_set hty1, Nat.le_trans r.sz (by simpa using hg.size), fun j => ?_, ?_, ?_, ?_, ?_, r.lb, r.ll⟩
  · have := (tfrozen (o := j) hgg).trans (r.fz j)
    simpa [go_sem] using this
  · obtain ⟨A, c, h1, h2, h3⟩ := r.ans
    exact ⟨A, c, (hcell 0 (by decide)).trans h1, row_keep h2 (fun b off e hp => (hset b (by have := h3 b off e hp; omega)).trans (hlow b (h3 b off e hp))), h3⟩
  · obtain ⟨v2, h1, h2⟩ := r.acc
    exact ⟨v2, (hcell 3 (by decide)).trans h1, own_keep h2 (hrow _ (by decide) (by decide))⟩
  · refine ⟨v1, World.cell?_setCell_same _ _ _ ((tcell hgg).trans hc), ?_⟩
    have := own_keep (w' := w1.setCell ⟨h, 4, none⟩ v1) hown1 (fun k cs hB hh => hset k (ne_row hty1 hh (by decide)))
    simpa [TS.noted] using this
  · obtain ⟨v2, h1, h2⟩ := r.loc
    exact ⟨v2, (hcell 5 (by decide)).trans h1, own_keep h2 (hrow _ (by decide) (by decide))⟩

theorem RefC.pushL {w w1 : World} {h B : Nat} {s : TS} (r : RefC w h B s) (x : Int) {v v1 : Value} (hc : w.cell? ⟨h, 5, none⟩ = some v) (hll : s.loc.length < 32768)
    (hown : w.ownsRow B 3 1 v s.loc.length (icells s.loc)) (hg : w.grownBy w1 v.ownBlock) (hown1 : w1.ownsRow B 3 1 v1 (s.loc.length + 1) (icells s.loc ++ [.int .i64 x])) :
    RefC (w1.setCell ⟨h, 5, none⟩ v1) h B { s with loc := s.loc ++ [x] } := by
  have hB := r.hB
  have hge : ∀ k, v.ownBlock = some k → B ≤ k := own_ge hown
  have hlow : ∀ k, k < B → w1.heap[k]? = w.heap[k]? := fun k hk => hg.block k (Nat.lt_of_lt_of_le hk r.sz) (fun e => by have := hge k e.symm; omega)
  have hgg : w1.heap[h]? = w.heap[h]? := by obtain ⟨cs, hh⟩ := r.ty; exact hg.block h r.hs (own_apart hh hown (by decide))
  have hty1 : ∃ cs, w1.heap[h]? = some (.cells cs 54 (0, 0)) := by obtain ⟨cs, hh⟩ := r.ty; exact ⟨cs, hgg.trans hh⟩
  have hset : ∀ k, k ≠ h → (w1.setCell ⟨h, 5, none⟩ v1).heap[k]? = w1.heap[k]? := fun k hne => Below.heap_setCell w1 ⟨h, 5, none⟩ _ k hne
  have hrow : ∀ e', e' ≠ 3 → e' ≠ 54 → ∀ k cs, B ≤ k → w.heap[k]? = some (.cells cs e' (0, 0)) → (w1.setCell ⟨h, 5, none⟩ v1).heap[k]? = w.heap[k]? := fun e' hne hnm k cs hB hh => (hset k (ne_row r.ty hh hnm)).trans (grown_hk hown hg hne k cs hB hh)
  have hcell : ∀ j, j ≠ 5 → (w1.setCell ⟨h, 5, none⟩ v1).cell? ⟨h, j, none⟩ = w.cell? ⟨h, j, none⟩ := fun j hj => (World.cell?_setCell_other _ _ _ _ (by simp <;> omega)).trans (tcell hgg)
  refine ⟨hB, ty_set hty1, Nat.le_trans r.sz (by simpa using hg.size), fun j => ?_, ?_, ?_, ?_, ?_, r.lb, by simp; omega⟩
  · have := (tfrozen (o := j) hgg).trans (r.fz j)
    simpa [go_sem] using this
  · obtain ⟨A, c, h1, h2, h3⟩ := r.ans
    exact ⟨A, c, (hcell 0 (by decide)).trans h1, row_keep h2 (fun b off e hp => (hset b (by have := h3 b off e hp; omega)).trans (hlow b (h3 b off e hp))), h3⟩
  · obtain ⟨v2, h1, h2⟩ := r.acc
    exact ⟨v2, (hcell 3 (by decide)).trans h1, own_keep h2 (hrow _ (by decide) (by decide))⟩
  · obtain ⟨v2, h1, h2⟩ := r.nts
    exact ⟨v2, (hcell 4 (by decide)).trans h1, own_keep h2 (hrow _ (by decide) (by decide))⟩
  · refine ⟨v1, World.cell?_setCell_same _ _ _ ((tcell hgg).trans hc), ?_⟩
    have e1 : icells (s.loc ++ [x]) = icells s.loc ++ [.int .i64 x] := by unfold icells; simp
    have e2 : (s.loc ++ [x]).length = s.loc.length + 1 := by simp
    simp only [e1, e2]
    exact own_keep (w' := w1.setCell ⟨h, 5, none⟩ v1) hown1 (fun k cs hB hh => hset k (ne_row hty1 hh (by decide)))

/-- A local is stored. -/
theorem RefC.store {w : World} {h B : Nat} {s : TS} (r : RefC w h B s) (k : Nat) (hk : k < s.loc.length) (x : Int) :
    ∃ gl c, w.cell? ⟨h, 5, none⟩ = some (.slice (some ⟨gl, 0, none⟩) s.loc.length c) ∧ w.cell? ⟨gl, k, none⟩ = some (.int .i64 (s.loc.getD k 0)) ∧ w.frozen? ⟨gl, k, none⟩ = false ∧
      RefC (w.setCell ⟨gl, k, none⟩ (.int .i64 x)) h B { s with loc := s.loc.set k x } ∧ TK h B w (w.setCell ⟨gl, k, none⟩ (.int .i64 x)) ∧ gl ≠ h := by
  obtain ⟨v, hcv, hown⟩ := r.loc
  have hown0 := hown
  have hhB := r.hB
  rcases hown.2 with ⟨_, h0⟩ | ⟨gl, cap, cur, rfl, hb, hh, hnc, hcm, hcs, htake⟩
  · omega
  · have hgl : gl ≠ h := ne_row r.ty hh (by decide)
    have hset : ∀ q, q ≠ gl → (w.setCell ⟨gl, k, none⟩ (.int .i64 x)).heap[q]? = w.heap[q]? := fun q hne => Below.heap_setCell w ⟨gl, k, none⟩ _ q hne
    have hgg := hset h (fun e => hgl e.symm)
    have hrow : ∀ e', e' ≠ 3 → ∀ q cs, B ≤ q → w.heap[q]? = some (.cells cs e' (0, 0)) → (w.setCell ⟨gl, k, none⟩ (.int .i64 x)).heap[q]? = w.heap[q]? := fun e' hne q cs _ hq => hset q (fun e => by
      subst e
      rw [hh] at hq
      simp only [Option.some.injEq, Obj.cells.injEq] at hq
      exact hne hq.2.1.symm)
    refine ⟨gl, cap, hcv, ?_, ?_, ⟨r.hB, by obtain ⟨cs, h9⟩ := r.ty; exact ⟨cs, hgg.trans h9⟩, by simpa using r.sz, fun j => (tfrozen hgg).trans (r.fz j), ?_, ?_, ?_, ?_, r.lb, by simpa using r.ll⟩, ?_, hgl⟩
    · rw [hown0.cellAt k (by omega)]
      have := iVal_map hk
      unfold IVal at this
      exact this
    · exact hown0.frozenAt k
    · obtain ⟨A, c, h1, h2, h3⟩ := r.ans
      exact ⟨A, c, (tcell hgg).trans h1, row_keep h2 (fun b off e hp => hset b (by have := h3 b off e hp; omega)), h3⟩
    · obtain ⟨v2, h1, h2⟩ := r.acc
      exact ⟨v2, (tcell hgg).trans h1, own_keep h2 (hrow _ (by decide))⟩
    · obtain ⟨v2, h1, h2⟩ := r.nts
      exact ⟨v2, (tcell hgg).trans h1, own_keep h2 (hrow _ (by decide))⟩
    · refine ⟨_, (tcell hgg).trans hcv, ?_⟩
      have hst := (hown0.stored k (.int .i64 x)).1
      have e1 : icells (s.loc.set k x) = (icells s.loc).set k (.int .i64 x) := by unfold icells; rw [List.map_set]
      rw [e1]
      simpa using hst
    · exact ⟨rfl, rfl, rfl, by simp, fun q _ _ hf => hset q (fun e => by
        subst e
        exact absurd rfl (hf hb cur _ hh).1)⟩

end Go.Proofs.Ytpandnodeldbjaa
