/-
  Rows of strips: those of a slots' register, of a table's, of many's.
-/
import Derived.Test.YtlclijnoablejaaRow
import Derived.Test.YtlclijnoablejaaChecked
import Derived.Deep.AppendLies
import Derived.Laws.OwnMore
set_option linter.unusedVariables false
set_option linter.unusedSimpArgs false
namespace Go.Proofs.Ytlclijnoablejaa
open Go.RowKit

def scell (a : Int × Int × Int) : List Value := [.int .i64 a.1, .int .i64 a.2.1, .int .i64 a.2.2]
def scells (l : List (Int × Int × Int)) : List Value := l.flatMap scell
theorem scells_append (l m : List (Int × Int × Int)) : scells (l ++ m) = scells l ++ scells m := by unfold scells; rw [List.flatMap_append]
theorem scells_len (l : List (Int × Int × Int)) : (scells l).length = l.length * 3 := by
  induction l with
  | nil => rfl
  | cons a l ih =>
    have e : scells (a :: l) = scell a ++ scells l := rfl
    rw [e, List.length_append, ih]
    simp [scell]; omega
theorem scells_one (l : List (Int × Int × Int)) : ∀ u ∈ scells l, u.oneCell' = true := by
  intro u hu
  unfold scells at hu
  obtain ⟨a, _, ha⟩ := List.mem_flatMap.1 hu
  simp only [scell, List.mem_cons, List.not_mem_nil, or_false] at ha
  rcases ha with rfl | rfl | rfl <;> rfl
theorem scells_at (l : List (Int × Int × Int)) : ∀ k, k < l.length → ∀ j, j < 3 → (scells l)[k * 3 + j]? = (scell (l.getD k (0, 0, 0)))[j]? := by
  induction l with
  | nil => intro k hk; simp at hk
  | cons a l ih =>
    intro k hk j hj
    have e : scells (a :: l) = scell a ++ scells l := rfl
    have e3 : (scell a).length = 3 := rfl
    rw [e]
    cases k with
    | zero =>
      rw [Nat.zero_mul, Nat.zero_add, List.getElem?_append_left (by omega)]
      rfl
    | succ k =>
      rw [List.getElem?_append_right (by omega), e3, show (k + 1) * 3 + j - 3 = k * 3 + j by omega]
      exact ih k (by simpa using hk) j hj
/-- A row of strips of the call's own. -/
def OwnStr (w : World) (B : Nat) (v : Value) (l : List (Int × Int × Int)) : Prop := w.ownsRow B 55 3 v l.length (scells l)
/-- Its sum; few, and small ones. -/
structure Sums (l : List (Int × Int × Int)) (n : Nat) (m : Int) : Prop where
  len : l.length = n
  sum : (l.map (·.1)).sum = m
  few : ∀ a, a ∈ l → 0 ≤ a.1 ∧ a.1 ≤ 16
theorem Sums.append {l l' : List (Int × Int × Int)} {n n' : Nat} {m m' : Int} (h : Sums l n m) (h' : Sums l' n' m') : Sums (l ++ l') (n + n') (m + m') :=
  ⟨by rw [List.length_append, h.len, h'.len], by rw [List.map_append, List.sum_append, h.sum, h'.sum], fun a ha => (List.mem_append.1 ha).elim (h.few a) (h'.few a)⟩
theorem infoStrip : (Try.prog.info? 55).map (fun i => (i.zero, i.size, i.bytes)) = some (some (.agg #[.int .i64 0, .int .i64 0, .int .i64 0]), 3, 24) := by kernel_rfl
theorem sinfo_parts {P : Program} {e : TypeId} {z : Value} {s b : Nat} (h : (P.info? e).map (fun i => (i.zero, i.size, i.bytes)) = some (some z, s, b)) : ∃ i, P.info? e = some i ∧ i.zero = some z ∧ i.size = s ∧ i.bytes = b := by
  cases hi : P.info? e with
  | none => rw [hi] at h; cases h
  | some i =>
    rw [hi] at h
    simp only [Option.map_some, Option.some.injEq, Prod.mk.injEq] at h
    exact ⟨i, rfl, h.1, h.2.1, h.2.2⟩
theorem own_up3 {w w' : World} {B e size n : Nat} {v : Value} {xs : List Value} (h : w.ownsRow B e size v n xs) (u : Up w w') : w'.ownsRow B e size v n xs := by
  rcases h.2 with ⟨hv, hn⟩ | ⟨g, cap, cur, hv, hg, hh, hr⟩
  · exact ⟨h.1, .inl ⟨hv, hn⟩⟩
  · exact ⟨h.1, .inr ⟨g, cap, cur, hv, hg, (u.block g (Array.getElem?_eq_some_iff.1 hh).1).trans hh, hr⟩⟩

set_option maxRecDepth 10000 in
theorem tstrips_any (w : World) : Calls Try.prog 56 #[] w fun e w' => e = .returned (.slice (some ⟨w.heap.size, 0, none⟩) 1 1) ∧ w'.heap[w.heap.size]? = some (.cells #[.int .i64 3, .int .i64 1, .int .i64 1] 55 (0, 0)) ∧ Up w w' := by
  have HB := Lib.hid (heap_alloc_new w (.cells #[.int .i64 3, .int .i64 1, .int .i64 1] 55))
  go_enter Try.func56, Try.ntmps56
  go_wp2_with fail
  go_ret
  exact ⟨rfl, HB.out, (Up.refl _).alloc _⟩
def slotL : List (Int × Int × Int) := [(4, 1, 1099511627776), (12, 1, 1)]
theorem slotL_sums : Sums slotL 2 16 := ⟨rfl, rfl, fun a ha => by simp [slotL] at ha; rcases ha with rfl | rfl <;> decide⟩

set_option maxRecDepth 10000 in
set_option maxHeartbeats 1000000 in
theorem sstrips_any (w : World) : Calls Try.prog 57 #[] w fun e w' => ∃ v, e = .returned v ∧ OwnStr w' w.heap.size v slotL ∧ Up w w' := by
  obtain ⟨i0, hi, hz0, hz1, hz2⟩ := sinfo_parts infoStrip
  have HI := Lib.hid hi
  have HZ0 := Lib.hid hz0
  have HZ1 := Lib.hid hz1
  have HZ2 := Lib.hid hz2
  have HB0 := Lib.hid (heap_alloc_new w (.cells #[.int .i64 4, .int .i64 1, .int .i64 1099511627776] 55))
  have HU0 := Lib.hid (show Up w (w.alloc (.cells #[.int .i64 4, .int .i64 1, .int .i64 1099511627776] 55)) from (Up.refl _).alloc _)
  clear hi hz0 hz1 hz2
  go_enter Try.func57, Try.ntmps57
  go_wp2_with fail
  refine (tstrips_any _).mono ?_
  rintro e w2 ⟨rfl, hb2, hu2⟩
  have HB2 := Lib.hid hb2
  have HU2 := Lib.hid (HU0.out.trans hu2)
  have HO2 := Lib.hid (show OwnStr w2 w.heap.size (.slice (some ⟨w.heap.size, 0, none⟩) 1 1) [(4, 1, 1099511627776)] from ⟨rfl, .inr ⟨w.heap.size, 1, _, rfl, Nat.le_refl _, (hu2.block _ (Array.getElem?_eq_some_iff.1 HB0.out).1).trans HB0.out, Nat.le_refl _, by decide, rfl, rfl⟩⟩)
  clear hb2 hu2 HB0
  generalize (w.alloc (.cells #[.int .i64 4, .int .i64 1, .int .i64 1099511627776] 55)).heap.size = g2 at *
  go_wp2_with fail
  go_loopw [1, 8] (fun u v wr => ∃ (j : Nat), j ≤ 1 ∧ v = .int .i64 j ∧ Hid (OwnStr wr w.heap.size u (slotL.take (1 + j)) ∧ Up w wr ∧ (j = 0 → wr.heap[g2]? = some (.cells #[.int .i64 3, .int .i64 1, .int .i64 1] 55 (0, 0))))) (fun _ v _ => 1 - (intOf v).toNat)
  case atStart => exact ⟨0, by omega, rfl, Lib.hid ⟨HO2.out, HU2.out, fun _ => HB2.out⟩⟩
  case round =>
    obtain ⟨j, hj, rfl, HO⟩ := hrel
    by_cases hlt : j < 1
    · obtain rfl : j = 0 := by omega
      have hb := HO.out.2.2 rfl
      have e0 := cell_of_row _ _ 0 _ _ _ hb
      have e1 := cell_of_row _ _ 1 _ _ _ hb
      have e2 := cell_of_row _ _ 2 _ _ _ hb
      simp only [List.getElem?_toArray, List.getElem?_cons_zero, List.getElem?_cons_succ] at e0 e1 e2
      have hUa : Up wr (wr.alloc (.cells #[.int .i64 12, .int .i64 1, .int .i64 1] 55)) := (Up.refl wr).alloc _
      have HOA := Lib.hid (show OwnStr _ w.heap.size u1 [(4, 1, 1099511627776)] from own_up3 HO.out.1 hUa)
      have HUA := Lib.hid (HO.out.2.1.trans hUa)
      have HBS := Lib.hid (show w.heap.size ≤ (wr.alloc (.cells #[.int .i64 12, .int .i64 1, .int .i64 1] 55)).heap.size from HUA.out.size)
      clear hb hUa
      go_wp2_with (at_builtin; refine wpList_push (news := [.int .i64 12, .int .i64 1, .int .i64 1]) rfl (.tmp 16) (.tmp 18) 56 rfl w.heap.size i0 (.agg #[.int .i64 0, .int .i64 0, .int .i64 0]) 3 24 Try.underlying56 HI.out HZ0.out HZ1.out HZ2.out rfl (by decide) _ 1 (scells [(4, 1, 1099511627776)]) rfl HOA.out (by show Value.slice (some ⟨wr.heap.size + 1, 0, none⟩) 1 1 = _; simp) rfl (by simp [Value.oneCell']) (by decide) (by decide) HBS.out ?_; intro v' w6 hown6 hg hbl)
      have HO6 := Lib.hid (show OwnStr w6 w.heap.size v' (slotL.take (1 + (0 + 1))) ∧ Up w w6 ∧ ((1 : Nat) = 0 → w6.heap[g2]? = some (.cells #[.int .i64 3, .int .i64 1, .int .i64 1] 55 (0, 0))) from ⟨hown6, show Below w.heap.size w w6 from Below.trans HUA.out hbl, fun e => absurd e (by decide)⟩)
      clear hown6 hg hbl
      go_wp2_with fail
      go_roundw
      case rel => exact ⟨1, by omega, by go_num, HO6⟩
      case measure => simp [intOf]
    · obtain rfl : j = 1 := by omega
      clear hlt
      go_wp2_with fail
      go_ret
      exact ⟨_, rfl, HO.out.1, HO.out.2.1⟩

end Go.Proofs.Ytlclijnoablejaa
