/-
  The program's Over, New and Take.
-/
import Derived.Test.YtlclijnoablejaaDoorStaG
import Derived.Laws.EntriesVeiled
set_option linter.unusedVariables false
set_option linter.unusedSimpArgs false
namespace Go.Proofs.YtlclijnoablejaaDoor
open Go.RowKit

theorem rowsB_rowK {L : List (List Int)} {k : Nat} (h : rowsB L k = true) : ∀ r ∈ L, RowK k r := by
  intro r hr
  unfold rowsB at h
  rw [List.all_eq_true] at h
  have := h r hr
  rw [Bool.and_eq_true, beq_iff_eq] at this
  refine ⟨by omega, ?_⟩
  have h2 := this.2
  unfold fineL at h2
  rw [Bool.and_eq_true] at h2
  exact h2.2
theorem rowK_rowsB {L : List (List Int)} {k : Nat} (hk : k ≤ 8) (h : ∀ r ∈ L, RowK k r) : rowsB L k = true := by
  unfold rowsB
  rw [List.all_eq_true]
  intro r hr
  rw [Bool.and_eq_true, beq_iff_eq]
  exact ⟨by rw [(h r hr).1], (h r hr).fine hk⟩

set_option maxRecDepth 10000 in
set_option maxHeartbeats 1000000 in
theorem over_yes (L : List (List Int)) (A : Option Addr) (c k : Nat) (w : World) (hk : k ≤ 8) (hL : L.length ≤ 1000000) (hring : Ring w) (hb : BRow w A L) (hr : rowsB L k = true) :
    Calls Tryd.prog 13 #[.slice A L.length c, .int .i64 k] w (OverPost k (overP k L) w) := by
  have HRW := Lib.hid (rows_any L A c k w (by omega) hb)
  rw [hr] at HRW
  have HMF := Lib.hid (show ∀ (fn : Fn) (first cap : Array Value) (w : World), (Instr.makeFunc fn first cap).run Tryd.prog w = .ok (.func fn first cap) w from fun _ _ _ _ => rfl)
  have hk8 : (k : Int) ≤ 8 := by omega
  have hk0 : (0 : Int) ≤ k := by omega
  obtain ⟨W2, hW2⟩ : ∃ W2, (w.alloc (.cells #[.nilFunc] 32)).setCell ⟨w.heap.size, 0, none⟩ (.func (.func 28) #[] #[.pointer (some ⟨w.heap.size, 0, none⟩)]) = W2 := ⟨_, rfl⟩
  have hh2 : W2.heap[w.heap.size]? = some (.cells #[.func (.func 28) #[] #[.pointer (some ⟨w.heap.size, 0, none⟩)]] 32 (0, 0)) := by
    rw [← hW2, heap_setCell_same _ _ 0 _ _ _ (heap_alloc_new w _)]; rfl
  have hcw := cell_of_row _ _ 0 _ _ _ hh2
  simp only [List.getElem?_toArray, List.getElem?_cons_zero] at hcw
  have hu2 : Up w W2 := by rw [← hW2]; exact Below.setCell ((Up.refl w).alloc _) (Nat.le_refl _) _
  have HC := Lib.hid (over_cl k L A c w.heap.size W2 hk hL (hring.up hu2) (hb.up hu2) (rowsB_rowK hr) hcw)
  have HU2 := Lib.hid hu2
  clear hh2 hu2 hring hb hr hk hL
  go_enter Tryd.func13, Tryd.ntmps13
  go_wp2_with fail
  refine HRW.out.mono ?_
  rintro e w2 ⟨rfl, rfl⟩
  go_wp2_with fail
  refine HC.out.mono ?_
  rintro e w3 ⟨v, rfl, hf, hl, hu3⟩
  have HF := Lib.hid (hf.less HU2.out.size)
  have HU3 := Lib.hid (HU2.out.trans hu3)
  have HL := Lib.hid hl
  clear hf hl hu3
  go_wp2_with fail
  go_ret
  exact ⟨_, rfl, HF.out, HL.out, HU3.out⟩

set_option maxRecDepth 10000 in
set_option maxHeartbeats 1000000 in
theorem over_no (L : List (List Int)) (A : Option Addr) (c : Nat) (k : Int) (w : World) (hL : L.length ≤ 1000000) (hb : BRow w A L) (h : k < 0 ∨ 8 < k ∨ rowsB L k = false) :
    Calls Tryd.prog 13 #[.slice A L.length c, .int .i64 k] w fun e w' => e = .returned (.slice none 0 0) ∧ w = w' := by
  have HRW := Lib.hid (rows_any L A c k w (by omega) hb)
  clear hb
  by_cases h0 : k < 0
  · clear h HRW
    generalize L.length = n at *
    go_enter Tryd.func13, Tryd.ntmps13
    go_wp2_with fail
    go_ret
    exact ⟨rfl, rfl⟩
  · by_cases h8 : 8 < k
    · clear h HRW
      generalize L.length = n at *
      go_enter Tryd.func13, Tryd.ntmps13
      go_wp2_with fail
      go_ret
      exact ⟨rfl, rfl⟩
    · rw [(h.resolve_left h0).resolve_left h8] at HRW
      have h0' : 0 ≤ k := by omega
      have h8' : k ≤ 8 := by omega
      clear h h0 h8
      generalize L.length = n at *
      go_enter Tryd.func13, Tryd.ntmps13
      go_wp2_with fail
      refine HRW.out.mono ?_
      rintro e w2 ⟨rfl, rfl⟩
      go_wp2_with fail
      go_ret
      exact ⟨rfl, rfl⟩

end Go.Proofs.YtlclijnoablejaaDoor
