/-
  Package bench: what reads a bench: at, over, Over, Now, Marks, draw; and a nil bench.
-/
import Derived.Test.YtedkgamecdmjdaaBenA
set_option linter.unusedVariables false
set_option linter.unusedSimpArgs false
namespace Go.Proofs.Ytedkgamecdmjdaa
open Go.RowKit

theorem at_nil (t : Int) (w : World) : Calls Try.prog 15 #[.pointer none, .int .i64 t] w fun e w' => e = .returned (.pointer none) ∧ w' = w := by
  go_enter Try.func15, Try.ntmps15
  go_wp2_with fail
  go_ret
  exact ⟨rfl, rfl⟩
/-- The thread of a bench of one, or nil. -/
theorem at_any (b g c1 : Nat) (t : Int) (w : World) (h1 : w.cell? ⟨b, 1, none⟩ = some (.slice (some ⟨g, 0, none⟩) 1 c1)) : Calls Try.prog 15 #[.pointer (some ⟨b, 0, none⟩), .int .i64 t] w fun e w' => e = .returned (.pointer (if t = 0 then some ⟨g, 0, none⟩ else none)) ∧ w' = w := by
  by_cases h : t < 0
  · rw [if_neg (by omega)]
    go_enter Try.func15, Try.ntmps15
    go_wp2_with fail
    go_ret
    exact ⟨rfl, rfl⟩
  · by_cases h2 : 1 ≤ t
    · rw [if_neg (by omega)]
      go_enter Try.func15, Try.ntmps15
      go_wp2_with fail
      go_ret
      exact ⟨rfl, rfl⟩
    · obtain rfl : t = 0 := by omega
      rw [if_pos rfl]
      go_enter Try.func15, Try.ntmps15
      go_wp2_with fail
      go_ret
      exact ⟨rfl, rfl⟩
def overB (st next many : Int) : Bool := decide (st = 0) && decide (many ≤ next)
theorem tover_any (g : Nat) (st next many : Int) (w : World) (h0 : w.cell? ⟨g, 0, none⟩ = some (.int .i64 many)) (h1 : w.cell? ⟨g, 1, none⟩ = some (.int .i64 next)) (h7 : w.cell? ⟨g, 7, none⟩ = some (.int .i64 st)) :
    Calls Try.prog 16 #[.pointer (some ⟨g, 0, none⟩)] w fun e w' => e = .returned (.bool (overB st next many)) ∧ Up w w' := by
  by_cases hs : st = 0
  · subst hs
    by_cases hn : many ≤ next
    · have e : overB 0 next many = true := by simp [overB, hn]
      rw [e]
      go_enter Try.func16, Try.ntmps16
      go_wp2_with fail
      go_quiet (fail)
      go_wp2_with fail
      go_ret
      exact ⟨rfl, (Up.refl _).drewN _⟩
    · have e : overB 0 next many = false := by simp [overB, hn]
      rw [e]
      go_enter Try.func16, Try.ntmps16
      go_wp2_with fail
      go_quiet (fail)
      go_wp2_with fail
      go_ret
      exact ⟨by show Ending.returned (.bool (decide (many ≤ next))) = _; rw [decide_eq_false (by omega)], (Up.refl _).drewN _⟩
  · have e : overB st next many = false := by simp [overB, hs]
    rw [e]
    go_enter Try.func16, Try.ntmps16
    go_wp2_with fail
    go_quiet (fail)
    go_wp2_with fail
    go_ret
    exact ⟨rfl, (Up.refl _).drewN _⟩

theorem over_nil (t : Int) (w : World) : Calls Try.prog 6 #[.pointer none, .int .i64 t] w fun e w' => e = .returned (.bool false) ∧ Up w w' := by
  have HA := Lib.hid (at_nil t w)
  go_enter Try.func6, Try.ntmps6
  go_wp2_with fail
  refine HA.out.mono ?_
  rintro e w' ⟨rfl, rfl⟩
  go_wp2_with fail
  go_ret
  exact ⟨rfl, Up.refl _⟩
/-- Over of a number that is no thread's. -/
theorem over_no (b g c1 : Nat) (t : Int) (w : World) (ht : t ≠ 0) (h1 : w.cell? ⟨b, 1, none⟩ = some (.slice (some ⟨g, 0, none⟩) 1 c1)) : Calls Try.prog 6 #[.pointer (some ⟨b, 0, none⟩), .int .i64 t] w fun e w' => e = .returned (.bool false) ∧ Up w w' := by
  have h := at_any b g c1 t w h1
  rw [if_neg ht] at h
  have HA := Lib.hid h
  clear h h1 ht
  go_enter Try.func6, Try.ntmps6
  go_wp2_with fail
  refine HA.out.mono ?_
  rintro e w' ⟨rfl, rfl⟩
  go_wp2_with fail
  go_ret
  exact ⟨rfl, Up.refl _⟩
theorem over_any (b g c1 : Nat) (st next many : Int) (w : World) (hb : w.cell? ⟨b, 1, none⟩ = some (.slice (some ⟨g, 0, none⟩) 1 c1)) (h0 : w.cell? ⟨g, 0, none⟩ = some (.int .i64 many)) (h1 : w.cell? ⟨g, 1, none⟩ = some (.int .i64 next)) (h7 : w.cell? ⟨g, 7, none⟩ = some (.int .i64 st)) :
    Calls Try.prog 6 #[.pointer (some ⟨b, 0, none⟩), .int .i64 0] w fun e w' => e = .returned (.bool (overB st next many)) ∧ Up w w' := by
  have h := at_any b g c1 0 w hb
  rw [if_pos rfl] at h
  have HA := Lib.hid h
  have HO := Lib.hid (tover_any g st next many w h0 h1 h7)
  generalize overB st next many = r at *
  clear h hb h0 h1 h7
  go_enter Try.func6, Try.ntmps6
  go_wp2_with fail
  refine HA.out.mono ?_
  rintro e w' ⟨rfl, rfl⟩
  go_wp2_with fail
  refine HO.out.mono ?_
  rintro e w' ⟨rfl, hu⟩
  have HU := Lib.hid hu
  clear hu
  go_wp2_with fail
  go_ret
  exact ⟨rfl, HU.out⟩
theorem now_nil (w : World) : Calls Try.prog 7 #[.pointer none] w fun e w' => e = .returned (.int .i64 0) ∧ Up w w' := by
  go_enter Try.func7, Try.ntmps7
  go_wp2_with fail
  go_ret
  exact ⟨rfl, Up.refl _⟩
theorem now_any (b : Nat) (n : Int) (w : World) (h : w.cell? ⟨b, 5, none⟩ = some (.int .i64 n)) : Calls Try.prog 7 #[.pointer (some ⟨b, 0, none⟩)] w fun e w' => e = .returned (.int .i64 n) ∧ Up w w' := by
  go_enter Try.func7, Try.ntmps7
  go_wp2_with fail
  go_ret
  exact ⟨rfl, Up.refl _⟩
theorem valueB_nil (t : Int) (w : World) : Calls Try.prog 8 #[.pointer none, .int .i64 t] w fun e w' => e = .returned (.int .i64 0) ∧ Up w w' := by
  go_enter Try.func8, Try.ntmps8
  go_wp2_with fail
  go_ret
  exact ⟨rfl, Up.refl _⟩
theorem marks_nil (w : World) : Calls Try.prog 9 #[.pointer none] w fun e w' => e = .returned (.slice none 0 0) ∧ Up w w' := by
  go_enter Try.func9, Try.ntmps9
  go_wp2_with fail
  go_ret
  exact ⟨rfl, Up.refl _⟩
theorem pick_nil (t : Int) (w : World) : Calls Try.prog 5 #[.pointer none, .int .i64 t] w fun e w' => e = .returned (.slice none 0 0) ∧ Up w w' := by
  have HA := Lib.hid (at_nil t w)
  go_enter Try.func5, Try.ntmps5
  go_wp2_with fail
  refine HA.out.mono ?_
  rintro e w' ⟨rfl, rfl⟩
  go_wp2_with fail
  go_ret
  exact ⟨rfl, Up.refl _⟩
theorem draw_any (b : Nat) (k c v : Int) (w : World) (h : w.cell? ⟨b, 3, none⟩ = some (.slice none 0 0)) : Calls Try.prog 35 #[.pointer (some ⟨b, 0, none⟩), .agg #[.int .i64 k, .int .i64 c, .int .i64 v]] w fun e w' => e = .returned (.int .i64 0) ∧ Up w w' := by
  have hlt := cell_lt h
  by_cases hk : k = 1
  · subst hk
    go_enter Try.func35, Try.ntmps35
    go_wp2_with fail
    go_ret
    exact ⟨rfl, (Up.refl _).alloc _⟩
  · go_enter Try.func35, Try.ntmps35
    go_wp2_with fail
    go_ret
    exact ⟨rfl, (Up.refl _).alloc _⟩
theorem infoMark : (Try.prog.info? 65).map (fun i => (i.zero, i.size, i.bytes)) = some (some (.agg #[.int .i64 0, .int .i64 0, .int .i64 0, .int .i64 0]), 4, 32) := by kernel_rfl
set_option maxRecDepth 10000 in
/-- A copy of the marks: as many. -/
theorem cloneM_any (n : Nat) (v : Value) (B : Nat) (xs : List Value) (w : World) (h : w.ownsRow B 65 4 v n xs) (hn : n ≤ 1000000) (ho : ∀ u ∈ xs, u.oneCell' = true) :
    Calls Try.prog 21 #[v] w fun e w' => (∃ A c, e = .returned (.slice A n c)) ∧ Up w w' := by
  obtain ⟨i0, hi, hz0, hz1, hz2⟩ := info_parts infoMark
  have HI := Lib.hid hi
  have HZ0 := Lib.hid hz0
  have HZ1 := Lib.hid hz1
  have HZ2 := Lib.hid hz2
  rcases h.2 with ⟨rfl, rfl⟩ | ⟨g, cap, cur, rfl, hg, hh, hcap, hmax, hsz, hcells⟩
  · have hnil := fun W : World => Lib.run_eql_slice_nil (P := Try.prog) W 28 65 none 0 0 0 0 Try.underlying28
    clear hi hz0 hz1 hz2 h hn ho HI HZ0 HZ1 HZ2
    go_enter Try.func21, Try.ntmps21
    go_wp2_with fail
    go_ret
    exact ⟨⟨_, _, rfl⟩, Up.refl _⟩
  · have hnil := fun W : World => Lib.run_eql_slice_nil (P := Try.prog) W 28 65 (some ⟨g, 0, none⟩) n cap 0 0 Try.underlying28
    have HL := Lib.hid (show xs.length = n * 4 from h.1)
    have HO := Lib.hid ho
    have HN := Lib.hid hn
    have HC := Lib.hid (fun (j : Nat) (u : Value) (hu : xs[j]? = some u) => show w.cell? ⟨g, 0 + j, none⟩ = some u from by
      rw [Nat.zero_add, cell_of_row w g j _ _ _ hh]
      rw [← hcells, List.getElem?_take] at hu
      split at hu
      · simpa using hu
      · cases hu)
    have HX := Lib.hid hh
    clear hi hz0 hz1 hz2 h hn ho hh hcells hmax hcap hg hsz
    go_enter Try.func21, Try.ntmps21
    go_wp2_with (at_builtin; refine wpList_append_own_at _ rfl (.tmp 5) (.tmp 6) 28 rfl w.heap.size 65 i0 (.agg #[.int .i64 0, .int .i64 0, .int .i64 0, .int .i64 0]) 4 32 Try.underlying28 HI.out HZ0.out HZ1.out HZ2.out rfl (by decide) _ 0 [] rfl ?_ ⟨g, 0, none⟩ n cap xs rfl HL.out ?_ HO.out ?_ ?_ ?_ ?_)
    case _ => exact ⟨rfl, .inr ⟨w.heap.size, 0, #[], rfl, Nat.le_refl _, heap_alloc_new w _, by decide, by decide, by simp⟩⟩
    case _ =>
      intro j u hu
      have h2 := (cellE (o := 0 + j) (((Up.refl w).alloc (.cells #[] 65)).block g (Array.getElem?_eq_some_iff.1 HX.out).1)).trans (HC.out j u hu)
      rw [Go.WideShapes.add_plain]; exact h2
    case _ => have := HN.out; unfold maxLen; omega
    case _ => have := HN.out; omega
    case _ => simp
    · intro v1 w1 hown1 hg _ _
      obtain ⟨A1, c1, rfl, _, _⟩ := own_form hown1
      have HU := Lib.hid (show Up w w1 from Below.trans ((Up.refl w).alloc _) (grownBy_below hg (by simp) (fun k e => by simp [Value.ownBlock] at e; omega)))
      clear hown1 hg
      go_wp2_with fail
      go_ret
      exact ⟨⟨A1, c1, by simp⟩, HU.out⟩

end Go.Proofs.Ytedkgamecdmjdaa
