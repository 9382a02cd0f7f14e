/-
  'append(out, xs...)' onto a row of the call's own, the source nil, empty or not; bytes as lists.
-/
import Derived.Test.YtedkgamecdmjdaaRow
import Derived.Laws.AppendOwnNone
set_option linter.unusedVariables false
set_option linter.unusedSimpArgs false
namespace Go.Proofs.Ytedkgamecdmjdaa
open Go.RowKit

/-- A list of bytes, as the values at its places. -/
def BVal (l : List UInt8) : Nat → Value := fun k => .int .u8 ((l.getD k 0).toNat : Int)
theorem getDB_lt {l : List UInt8} {k : Nat} (h : k < l.length) : l.getD k 0 = l[k] := by
  rw [List.getD_eq_getElem?_getD, List.getElem?_eq_getElem h]; rfl
def bcells (l : List UInt8) : List Value := l.map fun c => .int .u8 (c.toNat : Int)
theorem bcells_get {l : List UInt8} {k : Nat} (hk : k < l.length) : (bcells l)[k]? = some (BVal l k) := by
  unfold bcells BVal
  rw [List.getElem?_map, List.getElem?_eq_getElem hk, getDB_lt hk]; rfl
theorem bcells_append (l m : List UInt8) : bcells (l ++ m) = bcells l ++ bcells m := by unfold bcells; rw [List.map_append]
theorem bcells_length (l : List UInt8) : (bcells l).length = l.length := by unfold bcells; simp
theorem range_bval (l : List UInt8) : (List.range l.length).map (BVal l) = bcells l := by
  apply List.ext_getElem
  · simp [bcells]
  · intro i h1 h2
    simp at h1
    simp only [List.getElem_map, List.getElem_range]
    have := bcells_get h1
    rw [List.getElem?_eq_getElem h2] at this
    exact (Option.some.inj this).symm
theorem bval_one (l : List UInt8) : ∀ u ∈ bcells l, u.oneCell' = true := by
  intro u hu
  unfold bcells at hu
  obtain ⟨c, _, rfl⟩ := List.mem_map.1 hu
  rfl

/-- 'out = append(out, xs...)': xs reads as f. -/
theorem wpList_appendRow {P : Program} {ops : Array Oper} {rest : List Oper} {o : Oper} {a : Act} {Q : Exit → Act → World → Prop} {w : World} (hgd : o.guard = none) (s x : Operand) (t : TypeId)
    (ho : o.op = .call { callee := .builtin .append, args := #[s, x], argTypes := #[t, t] })
    (B : Nat) (e : TypeId) (i : TypeInfo) (z : Value) (bytes : Nat) (ht : P.underlying t = some (.slice e)) (hi : P.info? e = some i) (hz : i.zero = some z)
    (hsize : i.size = 1) (hby : i.bytes = bytes) (hzs : z.cells.size = 1)
    (v : Value) (n : Nat) (xs : List Value) (hs : a.eval s = v) (hown : w.ownsRow B e 1 v n xs)
    (A : Option Addr) (m c : Nat) (f : Nat → Value) (hx : a.eval x = .slice A m c) (hA : A = none → c = 0) (hr : Row w A m f) (h1 : ∀ u ∈ (List.range m).map f, u.oneCell' = true)
    (hb1 : 0 < bytes) (hbytes : (n + m) * bytes ≤ 140737488355328) (hB : B ≤ w.heap.size)
    (h : ∀ v' w', w'.ownsRow B e 1 v' (n + m) (xs ++ (List.range m).map f) → w.grownBy w' v.ownBlock → Below B w w' → wpList P ops Q rest (a.put o.dst v') w') :
    wpList P ops Q (o :: rest) a w := by
  have h63 : n + m ≤ maxLen := by
    have : n + m ≤ (n + m) * bytes := Nat.le_mul_of_pos_right _ hb1
    unfold maxLen; omega
  cases A with
  | none =>
    have hm : m = 0 := by
      rcases Nat.eq_zero_or_pos m with h0 | h0
      · exact h0
      · obtain ⟨b, off, he, _⟩ := hr 0 h0
        cases he
    have hc := hA rfl
    subst hm
    subst hc
    refine wpList_append_own_none hgd s x t ho B e i 1 ht hi v n xs hs hown hx ?_
    exact h v w (by simpa using hown) (World.grownBy.refl w _) (Below.refl _ _)
  | some ad =>
    refine wpList_append_own w hgd s x t ho B e i z 1 bytes ht hi hz hsize hby hzs (by decide) v n xs hs hown ad m c ((List.range m).map f) hx (by simp) ?_ h1 h63 hbytes hB ?_
    · intro j u hu
      have hj : j < m := by
        have := (List.getElem?_eq_some_iff.1 hu).1
        simpa using this
      obtain ⟨b, off, he, hc⟩ := hr j hj
      injection he with he
      subst he
      rw [Go.WideShapes.add_plain, hc]
      rw [List.getElem?_map, List.getElem?_range hj] at hu
      exact hu
    · intro v' w' hown' hg _
      exact h v' w' hown' hg (grownBy_below hg hB (own_ge hown))

theorem own_below {w w' : World} {B size n : Nat} {e : TypeId} {v : Value} {xs : List Value} (h : w.ownsRow B e size v n xs) (hb : Below w.heap.size w w') : w'.ownsRow B e size v n xs := by
  rcases h.2 with ⟨hv, hn⟩ | ⟨g, cap, cur, hv, hg, hh, hr⟩
  · exact ⟨h.1, .inl ⟨hv, hn⟩⟩
  · have hlt : g < w.heap.size := (Array.getElem?_eq_some_iff.1 hh).1
    exact ⟨h.1, .inr ⟨g, cap, cur, hv, hg, (hb.block g hlt).trans hh, hr⟩⟩

/-- '[]T{}': a row of the call's own without elements. -/
theorem own_empty (w : World) (e : TypeId) : (w.alloc (.cells #[] e)).ownsRow w.heap.size e 1 (.slice (some ⟨w.heap.size, 0, none⟩) 0 0) 0 [] :=
  ⟨by simp, .inr ⟨w.heap.size, 0, #[], rfl, Nat.le_refl _, heap_alloc_new w _, Nat.le_refl _, by unfold maxLen; decide, rfl, rfl⟩⟩

theorem own_bytes {w : World} {B : Nat} {e : TypeId} {v : Value} {l : List UInt8} (h : w.ownsRow B e 1 v l.length (bcells l)) :
    ∃ A c, v = .slice A l.length c ∧ Row w A l.length (BVal l) ∧ l.length ≤ c := own_row h (fun k hk => bcells_get hk)

end Go.Proofs.Ytedkgamecdmjdaa
