/-
  plan.Strips of two registers of kind 1.
-/
import Derived.Test.YtlclijnoablejaaPlanB
set_option linter.unusedVariables false
set_option linter.unusedSimpArgs false
namespace Go.Proofs.Ytlclijnoablejaa
open Go.RowKit

theorem rstrips_one (r : Rg) (w : World) (hk : r.kind = 1) : Calls Try.prog 29 #[.agg (rcells r)] w fun e w' => ∃ v z, e = .returned v ∧ OwnStr w' w.heap.size v [(1, 3, z)] ∧ Up w w' := by
  have hb : RegBox (w.alloc (.cells (rcells r) 29)) w.heap.size r := heap_alloc_new w _
  have hu : Up w (w.alloc (.cells (rcells r) 29)) := (Up.refl _).alloc _
  have HU := Lib.hid hu
  obtain ⟨c0, -, -, c3, -, -, c6⟩ := hb.cells
  unfold rcells at c0 c3 c6 HU hu ⊢
  rw [hk] at c0 HU c3 c6 hu ⊢
  clear hu hb
  go_enter Try.func29, Try.ntmps29
  go_wp2_with fail
  refine (pclamp_any _ _ _).mono ?_
  rintro e w1 ⟨⟨z, rfl⟩, rfl⟩
  go_wp2_with fail
  generalize hW : w.alloc (.cells #[.int .i64 1, .int .i64 r.base, .int .i64 r.loc, .int .i64 r.n, .int .i64 r.writer, .int .i64 r.reader, .int .i64 r.top] 29) = W at *
  have HX := Lib.hid (heap_alloc_new W (.cells #[.int .i64 1, .int .i64 3, .int .i64 z] 55))
  have HS := Lib.hid (show W.heap.size = w.heap.size + 1 by rw [← hW]; simp)
  rw [show w.heap.size + 1 = W.heap.size from HS.out.symm]
  go_ret
  exact ⟨_, z, rfl, ⟨rfl, .inr ⟨W.heap.size, 1, _, rfl, by rw [HS.out]; omega, HX.out, Nat.le_refl _, by decide, rfl, rfl⟩⟩, HU.out.alloc _⟩

theorem made_two : madeCells #[Value.slice none 0 0] 2 = [Value.slice none 0 0, Value.slice none 0 0].toArray := by kernel_rfl
/-- A row of slices in a block, each of one strip. -/
def TwoStr (w : World) (B : Nat) (S : List Value) (j : Nat) : Prop := ∀ k, k < j → ∃ z, OwnStr w B (S.getD k (.int .i64 0)) [(1, 3, z)]
set_option maxRecDepth 10000 in
set_option maxHeartbeats 2000000 in
theorem pstrips_two (R : List Rg) (A : Option Addr) (cc : Nat) (w : World) (hlen : R.length = 2) (hr : RegRow w A R) (hk : ∀ r ∈ R, r.kind = 1) (HJ : ∀ (S : List Value) (b B : Nat) (W : World), S.length = 2 → W.heap[b]? = some (.cells S.toArray 56 (0, 0)) → TwoStr W B S 2 → Calls Try.prog 52 #[.slice (some ⟨b, 0, none⟩) 2 2] W fun e w' => ∃ B2 c2, e = .returned (.slice B2 2 c2) ∧ Up W w') :
    Calls Try.prog 24 #[.slice A 2 cc] w fun e w' => ∃ B c2, e = .returned (.slice B 2 c2) ∧ Up w w' := by
  have HJN := Lib.hid HJ
  have HS := Lib.hid (fun j (h : j < 2) W => rstrips_one (R.getD j r0) W (hk _ (getD_mem (by omega))))
  have HR := Lib.hid hr
  have HL := Lib.hid hlen
  clear hr hlen hk HJ
  unfold rcells at HS
  have hmk : ∀ W : World, (Instr.makeSlice 89 (.int .i64 2) (.int .i64 2)).run Try.prog W = .ok (.slice (some ⟨W.heap.size, 0, none⟩) 2 2) (W.alloc (.cells (madeCells #[.slice none 0 0] 2) 56)) := fun W =>
    run_make_row' 89 56 (.slice none 0 0) 24 Try.underlying89 (by kernel_rfl) rfl .i64 .i64 2 (by omega) (by omega) W
  go_enter Try.func24, Try.ntmps24
  go_wp2_with fail
  go_loopw [11] (fun x wr => ∃ (j : Nat) (S : List Value), j ≤ 2 ∧ x = .int .i64 j ∧ S.length = 2 ∧ wr.heap[w.heap.size]? = some (.cells S.toArray 56 (0, 0)) ∧ Hid (Up w wr ∧ TwoStr wr (w.heap.size + 1) S j)) (fun v _ => 2 - (intOf v).toNat)
  case atStart => exact ⟨0, [.slice none 0 0, .slice none 0 0], by omega, rfl, rfl, (heap_alloc_new w (.cells (madeCells #[.slice none 0 0] 2) 56)).trans (by rw [made_two]), Lib.hid ⟨(Up.refl w).alloc _, fun k h => absurd h (Nat.not_lt_zero k)⟩⟩
  case round =>
    obtain ⟨j, S, hj, rfl, hSl, hh, HV⟩ := hrel
    by_cases hlt : j < 2
    · have hji : (j : Int) < 2 := by omega
      have hj0 : (0 : Int) ≤ j := by omega
      have HX : Hid (∃ q, A = some ⟨q, 0, none⟩ ∧ wr.cell? ⟨q, j * 7, none⟩ = some (.int .i64 (R.getD j r0).kind) ∧ wr.cell? ⟨q, j * 7 + 1, none⟩ = some (.int .i64 (R.getD j r0).base) ∧ wr.cell? ⟨q, j * 7 + 2, none⟩ = some (.int .i64 (R.getD j r0).loc) ∧ wr.cell? ⟨q, j * 7 + 3, none⟩ = some (.int .i64 (R.getD j r0).n) ∧ wr.cell? ⟨q, j * 7 + 4, none⟩ = some (.int .i64 (R.getD j r0).writer) ∧ wr.cell? ⟨q, j * 7 + 5, none⟩ = some (.int .i64 (R.getD j r0).reader) ∧ wr.cell? ⟨q, j * 7 + 6, none⟩ = some (.int .i64 (R.getD j r0).top)) := Lib.hid ((HR.out.up HV.out.1) j (by rw [HL.out]; exact hlt))
      have HSJ := Lib.hid (HS.out j hlt)
      generalize R.getD j r0 = r at HX HSJ
      obtain ⟨K, Y, Z, rn, rw', rr, T⟩ := r
      dsimp only at HX HSJ
      obtain ⟨q, rfl, x0, x1, x2, x3, x4, x5, x6⟩ := HX.out
      have HSZ := Lib.hid (Array.getElem?_eq_some_iff.1 hh).1
      have HH := Lib.hid hh
      have HSL := Lib.hid hSl
      clear hh hSl HX
      go_wp2_with fail
      refine (HSJ.out _).mono ?_
      rintro e w2 ⟨v, z, rfl, ho, hu2⟩
      obtain ⟨g, cap, rfl, hg1, hg2⟩ := World.ownsRow.form ho (Nat.zero_lt_succ _)
      have hu3 : Up wr w2 := ((Up.refl wr).alloc (.cells #[.int .i64 K, .int .i64 Y, .int .i64 Z, .int .i64 rn, .int .i64 rw', .int .i64 rr, .int .i64 T] 29)).trans hu2
      have hh2 : w2.heap[w.heap.size]? = some (.cells S.toArray 56 (0, 0)) := (hu3.block _ HSZ.out).trans HH.out
      have HH2 := Lib.hid hh2
      have d0 := cell_of_row _ _ j _ _ _ hh2
      have d1 : w2.frozen? ⟨w.heap.size, j, none⟩ = false := by simp [World.frozen?, hh2]
      obtain ⟨d, hd⟩ : ∃ d, S.toArray[j]? = some d := ⟨S[j]'(by rw [HSL.out]; exact hlt), by simp [HSL.out, hlt]⟩
      rw [hd] at d0
      have HOW : Hid (∀ k, k < j + 1 → ∃ z, OwnStr w2 (w.heap.size + 1) ((S.set j (.slice (some ⟨g, 0, none⟩) 1 cap)).getD k (.int .i64 0)) [(1, 3, z)]) := Lib.hid (fun k hk => by
        by_cases hkj : k < j
        · obtain ⟨z', h'⟩ := HV.out.2 k hkj
          refine ⟨z', ?_⟩
          rw [List.getD_eq_getElem?_getD, List.getElem?_set_ne (by omega), ← List.getD_eq_getElem?_getD]
          exact own_up3 h' hu3
        · obtain rfl : k = j := by omega
          refine ⟨z, ?_⟩
          rw [List.getD_eq_getElem?_getD, List.getElem?_set_self (by rw [HSL.out]; exact hlt)]
          exact ⟨ho.1, ho.2.imp id fun ⟨g, cap, cur, a1, a2, a3⟩ => ⟨g, cap, cur, a1, Nat.le_trans (by have := HSZ.out; simp; omega) a2, a3⟩⟩)
      have HU2 := Lib.hid (HV.out.1.trans hu3)
      clear hu2 hu3 ho x0 x1 x2 x3 x4 x5 x6 hh2 hg1 hg2 hd
      go_wp2_with fail
      go_roundw
      case rel => exact ⟨j + 1, S.set j (.slice (some ⟨g, 0, none⟩) 1 cap), by omega, by go_num, by rw [List.length_set]; exact HSL.out, (heap_setCell_same w2 w.heap.size j _ _ _ HH2.out).trans (by simp), Lib.hid ⟨Below.setCell HU2.out (Nat.le_refl _) _, fun k hk => by
        obtain ⟨z, h⟩ := HOW.out k hk
        exact ⟨z, ownsRow_setCell_below h (Nat.lt_succ_self _) _⟩⟩⟩
      case measure => simp [intOf]; omega
    · obtain rfl : j = 2 := by omega
      clear hlt
      have HJ2 := Lib.hid (HJN.out S w.heap.size (w.heap.size + 1) wr hSl hh HV.out.2)
      clear hSl hh
      go_wp2_with fail
      refine HJ2.out.mono ?_
      rintro e w3 ⟨B2, c2, rfl, hu3⟩
      have HU3 := Lib.hid (HV.out.1.trans hu3)
      clear hu3
      go_wp2_with fail
      go_ret
      exact ⟨_, _, rfl, HU3.out⟩

set_option maxRecDepth 10000 in
set_option maxHeartbeats 2000000 in
theorem join_two (S : List Value) (b B : Nat) (w : World) (hS : S.length = 2) (hh : w.heap[b]? = some (.cells S.toArray 56 (0, 0))) (ht : TwoStr w B S 2) :
    Calls Try.prog 52 #[.slice (some ⟨b, 0, none⟩) 2 2] w fun e w' => ∃ B2 c2, e = .returned (.slice B2 2 c2) ∧ Up w w' := by
  obtain ⟨i0, hi, hz0, hz1, hz2⟩ := sinfo_parts infoStrip
  have HI := Lib.hid hi
  have HZ0 := Lib.hid hz0
  have HZ1 := Lib.hid hz1
  have HZ2 := Lib.hid hz2
  have HT := Lib.hid ht
  have HH := Lib.hid hh
  have HSL := Lib.hid hS
  clear hi hz0 hz1 hz2 ht hh hS
  go_enter Try.func52, Try.ntmps52
  go_wp2_with fail
  go_loopw [3, 8] (fun u v wr => ∃ (j : Nat) (l : List (Int × Int × Int)), j ≤ 2 ∧ v = .int .i64 j ∧ Hid (l.length = j ∧ OwnStr wr w.heap.size u l ∧ Up w wr)) (fun _ v _ => 2 - (intOf v).toNat)
  case atStart => exact ⟨0, [], by omega, rfl, Lib.hid ⟨rfl, ⟨rfl, .inl ⟨rfl, rfl⟩⟩, Up.refl _⟩⟩
  case round =>
    obtain ⟨j, l, hj, rfl, HO⟩ := hrel
    by_cases hlt : j < 2
    · have hji : (j : Int) < 2 := by omega
      have hj0 : (0 : Int) ≤ j := by omega
      obtain ⟨z, hz⟩ := HT.out j hlt
      have hc : wr.cell? ⟨b, j, none⟩ = some (S.getD j (.int .i64 0)) := by
        rw [cell_of_row wr b j _ _ _ ((HO.out.2.2.block _ (Array.getElem?_eq_some_iff.1 HH.out).1).trans HH.out)]
        simp [HSL.out, hlt]
      generalize S.getD j (.int .i64 0) = s at hz hc
      have hz2 := own_up3 hz HO.out.2.2
      obtain ⟨g, cap, rfl, hg1, hg2⟩ := World.ownsRow.form hz2 (Nat.zero_lt_succ _)
      have HN := Lib.hid (fun j u h => hz2.cells (g := g) rfl j u h)
      have HB := Lib.hid (show l.length + 1 ≤ maxLen ∧ (l.length + 1) * 24 ≤ 140737488355328 from by rw [HO.out.1]; unfold maxLen; omega)
      have HOA := Lib.hid HO.out.2.1
      have HUA := Lib.hid HO.out.2.2
      have HL1 := Lib.hid HO.out.1
      clear hz hz2 hg1 hg2
      go_wp2_with (at_builtin; refine wpList_append_lies _ rfl (.tmp 12) (.tmp 13) 56 rfl w.heap.size 55 i0 (.agg #[.int .i64 0, .int .i64 0, .int .i64 0]) 3 24 Try.underlying56 HI.out HZ0.out HZ1.out HZ2.out rfl (by decide) _ l.length (scells l) rfl HOA.out ⟨g, 0, none⟩ 1 cap (scells [(1, 3, z)]) rfl rfl HN.out (scells_one _) (by decide) HB.out.1 HB.out.2 HUA.out.size _ rfl ?_; intro g1 cap1 w6 hown6 hg hor hlt6)
      have HO6 := Lib.hid (show (l ++ [(1, 3, z)]).length = j + 1 ∧ OwnStr w6 w.heap.size (.slice (some ⟨g1, 0, none⟩) (l.length + 1) cap1) (l ++ [(1, 3, z)]) ∧ Up w w6 from by
        refine ⟨by rw [List.length_append, HL1.out]; rfl, ?_, show Below w.heap.size w w6 from Below.grown HUA.out hg HUA.out.size (own_ge HOA.out)⟩
        unfold OwnStr
        rw [List.length_append, scells_append]
        exact hown6)
      clear hown6 hg hor hlt6
      go_wp2_with fail
      go_roundw
      case rel => exact ⟨j + 1, _, by omega, by go_num, HO6⟩
      case measure => simp [intOf]; omega
    · obtain rfl : j = 2 := by omega
      clear hlt
      go_wp2_with fail
      go_ret
      have h := HO.out
      obtain ⟨A, cc, hv, -⟩ : ∃ A cc, u3 = Value.slice A 2 cc ∧ True := by
        rcases h.2.1.2 with ⟨a1, a2⟩ | ⟨g, cap, cur, a1, _⟩
        · rw [h.1] at a2; cases a2
        · rw [h.1] at a1; exact ⟨_, _, a1, trivial⟩
      exact ⟨A, cc, by rw [hv]; rfl, h.2.2⟩

end Go.Proofs.Ytlclijnoablejaa
