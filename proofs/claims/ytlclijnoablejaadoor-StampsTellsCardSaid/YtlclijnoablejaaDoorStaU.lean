/-
  StampsTells, joined; a board that came in, opened.
-/
import Derived.Test.YtlclijnoablejaaDoorStaR
import Derived.Test.YtlclijnoablejaaDoorStaS
import Derived.Test.YtlclijnoablejaaDoorStaT
import Derived.Test.YtlclijnoablejaaDoorLawB
import Derived.Deep.Slices
set_option linter.unusedVariables false
set_option linter.unusedSimpArgs false
namespace Go.Proofs.YtlclijnoablejaaDoor
open Go.ChangeShapes Go.WideShapes Go.ChangeAt Go.RowKit Go.Deep

section
variable {H : Type} {enc : TypeId × Value → H} {P : Program} {w : World}
theorem open_board {t e i : TypeId} {v : Value} {d : DataW H} {ps : List MemPlace} {base : Nat} (ht : P.underlying t = some (.slice e)) (he : P.underlying e = some (.slice i)) (hi : P.underlying i = some (.int .i64)) (hce : P.cellsOf e = 1) (hci : P.cellsOf i = 1)
    (hval : Value.okWide P w .any base t v) (h : DataW.Trod enc P w 0 (fun _ => true) true t v d ps) :
    ∃ (A : Option Addr) (L : List (List Int)) (c : Nat), v = .slice A L.length c ∧ BRow w A L ∧ L.length ≤ c ∧ c ≤ 9223372036854775807 := by
  obtain ⟨A, len, cap, rfl⟩ := okWide_slice ht hval
  obtain ⟨fuel, hf⟩ := h
  rcases open_slice1 ht hce hf with ⟨hcs, _⟩ | ⟨a, len', cap', m, n0, V, D, Pl, hcs, _, hl, hm, hmm, hx, hall⟩
  · simp [Value.cells] at hcs
    obtain ⟨rfl, rfl, rfl⟩ := hcs
    exact ⟨none, [], 0, rfl, BRow.nil _ _, Nat.le_refl _, by omega⟩
  · simp [Value.cells] at hcs
    obtain ⟨rfl, rfl, rfl⟩ := hcs
    simp only [if_true] at hmm
    subst hmm
    have hrow : ∀ k, k < m → ∃ r : List Int, ∃ A' c', V k = .slice A' r.length c' ∧ RowC w A' c' r := by
      intro k hk
      obtain ⟨_, htr⟩ := hall k hk
      rcases open_ints he hi hci htr with ⟨hv, _⟩ | ⟨b, ln, cp, zs, hv, _, hl2, hm2, hz, _, hcell, _⟩
      · simp only [List.cons.injEq, and_true] at hv
        exact ⟨[], none, 0, hv, Row.nil _ _ _, Nat.le_refl _, by omega, fun _ => rfl⟩
      · simp only [List.cons.injEq, and_true] at hv
        simp only [if_true] at hz
        unfold maxLen at hm2
        have hln : (zs.take ln).length = ln := by rw [List.length_take]; omega
        refine ⟨zs.take ln, some b, cp, by rw [hln]; exact hv, ?_, by omega, by omega, fun h => by cases h⟩
        rw [hln]
        obtain ⟨bb, off, spot⟩ := b
        intro j hj
        have hspot : spot = none := by simpa [Addr.add] using World.cell?_spot (hcell 0 (by omega))
        subst hspot
        refine ⟨bb, off, rfl, ?_⟩
        rw [← Go.WideShapes.add_plain, hcell j (by omega)]
        unfold IVal
        rw [List.getD_eq_getElem?_getD, List.getD_eq_getElem?_getD, List.getElem?_take, if_pos hj]
    obtain ⟨f, hfx⟩ : ∃ f : Nat → List Int, ∀ k, k < m → ∃ A' c', V k = .slice A' (f k).length c' ∧ RowC w A' c' (f k) :=
      ⟨fun k => if h : k < m then (hrow k h).choose else [], fun k hk => by simpa only [dif_pos hk] using (hrow k hk).choose_spec⟩
    unfold maxLen at hm
    have hlen : ((List.range len).map f).length = len := by simp
    refine ⟨some a, (List.range len).map f, m, by rw [hlen], ?_, by omega, by omega⟩
    intro k hk
    rw [hlen] at hk
    obtain ⟨A', c', hV, hr⟩ := hfx k (by omega)
    obtain ⟨b, off, spot⟩ := a
    have hspot : spot = none := by simpa [Addr.add] using World.cell?_spot (hall 0 (by omega)).1
    subst hspot
    have e : ((List.range len).map f).getD k [] = f k := by rw [List.getD_eq_getElem?_getD, List.getElem?_map, List.getElem?_range hk]; rfl
    rw [e]
    exact ⟨b, off, A', c', rfl, by rw [← Go.WideShapes.add_plain, (hall k (by omega)).1, hV], hr⟩
end

theorem farB_len {L : List (List Int)} (h : farB L = false) : L.length ≤ 40 := by
  unfold farB at h
  rw [Bool.or_eq_false_iff, decide_eq_false_iff_not] at h
  omega
set_option maxRecDepth 10000 in
set_option maxHeartbeats 1000000 in
theorem stampsTells_any (L : List (List Int)) (A : Option Addr) (cc : Nat) (n me c : Int) (w : World) (hring : Ring w) (hL : L.length ≤ 9223372036854775807) (hb : BRow w A L) :
    Calls Tryd.prog 3 #[.slice A L.length cc, .int .i64 n, .int .i64 me, .int .i64 c] w fun e w' => e = .returned (.bool true) ∧ Up w w' := by
  cases hfar : farB L
  · have hl := farB_len hfar
    cases hfb : fineBd L
    · exact tells_nf L A cc n me c w hring (by omega) hb hfar hfb
    · by_cases h1 : me < 0
      · exact tells_nl L A cc n me c w hring (by omega) hb hfar hfb h1
      · by_cases h2 : (L.length : Int) ≤ me
        · exact tells_nh L A cc n me c w hring (by omega) hb hfar hfb h2
        · by_cases h3 : c < 0
          · exact tells_ol L A cc n me c w hring (by omega) hb hfar hfb me.toNat (by omega) (by omega) h3
          · by_cases h4 : (L.length : Int) ≤ c
            · exact tells_oh L A cc n me c w hring (by omega) hb hfar hfb me.toNat (by omega) (by omega) h4
            · exact tells_in L A cc n me c w hring (by omega) hb hfar hfb me.toNat c.toNat (by omega) (by omega) (by omega) (by omega)
  · have HFA := Lib.hid (far_any L A cc w hL hb)
    rw [hfar] at HFA
    have HAL := Lib.hid (alive07_any w hring)
    clear hring hb hfar hL
    generalize L.length = q at *
    go_enter Tryd.func3, Tryd.ntmps3
    go_wp2_with fail
    refine HFA.out.mono ?_
    rintro e w0 ⟨rfl, rfl⟩
    go_wp2_with fail
    refine HAL.out.mono ?_
    rintro e w1 ⟨rfl, hu1⟩
    go_wp2_with fail
    go_ret
    exact ⟨rfl, hu1⟩

end Go.Proofs.YtlclijnoablejaaDoor
