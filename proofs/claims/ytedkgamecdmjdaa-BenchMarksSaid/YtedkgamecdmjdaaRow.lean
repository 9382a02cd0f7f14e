/-
  Slices that are read: an element by its place, nil let in; and that this stays while nothing that was there is written.
-/
import Derived.WalkKit
import Derived.WalkSpells
import Derived.Lib.Hide
import Derived.Deep.AppendLies
import Derived.Deep.OwnRows
import Derived.WalkLawsBesides
import Derived.Deep.QuietTactic
set_option linter.unusedVariables false
set_option linter.unusedSimpArgs false
namespace Go.Proofs.Ytedkgamecdmjdaa
open Go.RowKit

theorem getD_lt {l : List Int} {k : Nat} (h : k < l.length) : l.getD k 0 = l[k] := by
  rw [List.getD_eq_getElem?_getD, List.getElem?_eq_getElem h]; rfl

theorem cell_lt {w : World} {b o : Nat} {v : Value} (h : w.cell? ⟨b, o, none⟩ = some v) : b < w.heap.size := by
  unfold World.cell? at h
  cases hh : w.heap[b]? with
  | none => simp [hh] at h
  | some x => exact (Array.getElem?_eq_some_iff.1 hh).1

/-- A list of ints, as the values at its places. -/
def IVal (l : List Int) : Nat → Value := fun k => .int .i64 (l.getD k 0)

/-- The slice at A has, at its first n places, what f says; each is one cell. -/
def Row (w : World) (A : Option Addr) (n : Nat) (f : Nat → Value) : Prop :=
  ∀ k, k < n → ∃ b off, A = some ⟨b, off, none⟩ ∧ w.cell? ⟨b, off + k, none⟩ = some (f k)

theorem Row.below {w w' : World} {A : Option Addr} {n : Nat} {f : Nat → Value} (h : Row w A n f) (hb : Below w.heap.size w w') : Row w' A n f := fun k hk => by
  obtain ⟨b, off, e, hc⟩ := h k hk
  exact ⟨b, off, e, (hb.cell (p := ⟨b, off + k, none⟩) (cell_lt hc)).trans hc⟩
theorem Row.belowOf {w w' : World} {B : Nat} {A : Option Addr} {n : Nat} {f : Nat → Value} (h : Row w A n f) (hB : w.heap.size ≤ B) (hb : Below B w w') : Row w' A n f := fun k hk => by
  obtain ⟨b, off, e, hc⟩ := h k hk
  exact ⟨b, off, e, (hb.cell (p := ⟨b, off + k, none⟩) (Nat.lt_of_lt_of_le (cell_lt hc) hB)).trans hc⟩
theorem Row.nil (w : World) (A : Option Addr) (f : Nat → Value) : Row w A 0 f := fun k hk => absurd hk (by omega)

theorem cells_new (w : World) (news : List Value) (e : TypeId) (j : Nat) (u : Value) (h : news[j]? = some u) : (w.alloc (.cells news.toArray e)).cell? ((⟨w.heap.size, 0, none⟩ : Addr).add j) = some u := by
  have e1 : (⟨w.heap.size, 0, none⟩ : Addr).add j = ⟨w.heap.size, j, none⟩ := by
    unfold Addr.add
    by_cases hj : j = 0
    · subst hj; rfl
    · rw [if_neg hj]; simp
  rw [e1, World.cell?_alloc_at _ _ _ _ rfl]
  simpa using h

theorem grownBy_alloc (w : World) (o : Obj) (row : Option Nat) : w.grownBy (w.alloc o) row :=
  ⟨rfl, rfl, rfl, by simp, fun k hk _ => Below.heap_alloc w o k hk⟩
theorem grownBy_below {B : Nat} {w w' : World} {row : Option Nat} (h : w.grownBy w' row) (hB : B ≤ w.heap.size) (hr : ∀ k, row = some k → B ≤ k) : Below B w w' :=
  (Below.refl B w).grown h hB hr
theorem own_ge {w : World} {B : Nat} {e : TypeId} {size n : Nat} {v : Value} {xs : List Value} (h : w.ownsRow B e size v n xs) : ∀ k, v.ownBlock = some k → B ≤ k := fun k hk => (h.lt k hk).1

/-- A row of the call's own, read. -/
theorem own_row {w : World} {B n : Nat} {e : TypeId} {v : Value} {xs : List Value} {f : Nat → Value} (h : w.ownsRow B e 1 v n xs) (hx : ∀ k, k < n → xs[k]? = some (f k)) :
    ∃ A c, v = .slice A n c ∧ Row w A n f ∧ n ≤ c := by
  rcases h.2 with ⟨rfl, rfl⟩ | ⟨g, cap, cur, rfl, _, _, hc, _⟩
  · exact ⟨none, 0, rfl, Row.nil _ _ _, Nat.le_refl _⟩
  · refine ⟨_, cap, rfl, fun k hk => ⟨g, 0, rfl, ?_⟩, hc⟩
    rw [Nat.zero_add, h.cellAt k (by omega)]
    exact hx k hk
theorem own_nil (w : World) (B : Nat) (e : TypeId) (size : Nat) : w.ownsRow B e size (.slice none 0 0) 0 [] := ⟨by simp, .inl ⟨rfl, rfl⟩⟩
theorem iVal_map {l : List Int} {k : Nat} (hk : k < l.length) : (l.map (Value.int .i64))[k]? = some (IVal l k) := by
  rw [List.getElem?_map, List.getElem?_eq_getElem hk]
  unfold IVal
  rw [getD_lt hk]; rfl

theorem made_at (z : Value) (n j : Nat) (h : j < n) : (madeCells #[z] n)[j]? = some z := by
  unfold madeCells
  rw [Array.getElem?_map, Array.getElem?_range]
  simp [h, Nat.mod_one]
theorem made_row (w : World) (z : Value) (n : Nat) (e : TypeId) : Row (w.alloc (.cells (madeCells #[z] n) e)) (some ⟨w.heap.size, 0, none⟩) n (fun _ => z) := fun k hk =>
  ⟨w.heap.size, 0, rfl, by rw [World.cell?_alloc_at _ _ _ _ rfl, Nat.zero_add]; exact made_at z n k hk⟩
theorem row_lit (w : World) (l : List Int) (e : TypeId) : Row (w.alloc (.cells (l.map (Value.int .i64)).toArray e)) (some ⟨w.heap.size, 0, none⟩) l.length (IVal l) := fun k hk =>
  ⟨w.heap.size, 0, rfl, by rw [World.cell?_alloc_at _ _ _ _ rfl, Nat.zero_add]; have := iVal_map hk; simpa using this⟩
/-- All that was there in the first world is there in the second. -/
def Up (w0 w : World) : Prop := Below w0.heap.size w0 w
theorem Up.refl (w : World) : Up w w := Below.refl _ _
theorem Up.trans {a b c : World} (h : Up a b) (k : Up b c) : Up a c := Below.trans h (Below.mono k h.size)
theorem Up.alloc {a b : World} (h : Up a b) (o : Obj) : Up a (b.alloc o) := Below.alloc h h.size o
theorem Up.drewN {a b : World} (h : Up a b) (n : Nat) : Up a (b.drewN n) := below_drewN h n
theorem Up.drew {a b : World} (h : Up a b) : Up a b.drew := Below.drew h
theorem Row.up {w w' : World} {A : Option Addr} {n : Nat} {f : Nat → Value} (h : Row w A n f) (hb : Up w w') : Row w' A n f := h.below hb
/-- A contract, said of every world above a fixed one. -/
theorem upBase {P : Program} {f : FuncId} {args : Array Value} {R : Ending → World → Prop} {w0 : World} (c : ∀ w : World, Up w0 w → Calls P f args w fun e w' => R e w' ∧ Below w.heap.size w w') :
    ∀ w : World, Up w0 w → Calls P f args w fun e w' => R e w' ∧ Up w0 w' := fun w h => (c w h).mono fun e w' ⟨he, hb⟩ => ⟨he, h.trans hb⟩

theorem Row.congr {w : World} {A : Option Addr} {n : Nat} {f g : Nat → Value} (h : Row w A n f) (hfg : ∀ k, k < n → f k = g k) : Row w A n g := fun k hk => by
  obtain ⟨b, off, e, hc⟩ := h k hk
  exact ⟨b, off, e, by rw [hc, hfg k hk]⟩

/-- 'out = append(out, x)': x has just been laid in a block of its own. -/
theorem wpList_push {P : Program} {ops : Array Oper} {rest : List Oper} {o : Oper} {a : Act} {Q : Exit → Act → World → Prop} {w : World} {e : TypeId} {news : List Value} (hgd : o.guard = none) (s x : Operand) (t : TypeId)
    (ho : o.op = .call { callee := .builtin .append, args := #[s, x], argTypes := #[t, t] })
    (B : Nat) (i : TypeInfo) (z : Value) (size bytes : Nat) (ht : P.underlying t = some (.slice e)) (hi : P.info? e = some i) (hz : i.zero = some z)
    (hsize : i.size = size) (hby : i.bytes = bytes) (hzs : z.cells.size = size) (hsz : 0 < size)
    (v : Value) (n : Nat) (xs : List Value) (hs : a.eval s = v) (hown : w.ownsRow B e size v n xs)
    (hx : a.eval x = .slice (some ⟨w.heap.size, 0, none⟩) 1 1) (hl : news.length = size) (h1 : ∀ u ∈ news, u.oneCell' = true)
    (hb1 : 0 < bytes) (hbytes : (n + 1) * bytes ≤ 140737488355328) (hB : B ≤ w.heap.size)
    (h : ∀ v' w', w'.ownsRow B e size v' (n + 1) (xs ++ news) → w.grownBy w' v.ownBlock → Below B w w' → wpList P ops Q rest (a.put o.dst v') w') :
    wpList P ops Q (o :: rest) a (w.alloc (.cells news.toArray e)) := by
  have h63 : n + 1 ≤ maxLen := by
    have : n + 1 ≤ (n + 1) * bytes := Nat.le_mul_of_pos_right _ hb1
    unfold maxLen; omega
  refine wpList_append_own (w.alloc (.cells news.toArray e)) hgd s x t ho B e i z size bytes ht hi hz hsize hby hzs hsz v n xs hs (hown.alloc _) ⟨w.heap.size, 0, none⟩ 1 1 news hx (by omega) (fun j u hu => cells_new w news e j u hu) h1 h63 hbytes (by simp; omega) ?_
  intro v' w' hown' hg _
  have hg' : w.grownBy w' v.ownBlock := ⟨hg.os, hg.tape, hg.output, Nat.le_trans (by simp) hg.size, fun k hk hne => (hg.block k (by simp; omega) hne).trans (Below.heap_alloc w _ k hk)⟩
  exact h v' w' hown' hg' (grownBy_below hg' hB (own_ge hown))

end Go.Proofs.Ytedkgamecdmjdaa
