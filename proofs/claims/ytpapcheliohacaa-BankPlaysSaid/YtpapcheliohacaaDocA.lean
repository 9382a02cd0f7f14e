/-
  The document's At.
-/
import Derived.Test.YtpapcheliohacaaDocM
import Derived.Test.YtpapcheliohacaaBankR
import Derived.Laws.ResultCell
import Derived.Deep.RegionHeld3
set_option linter.unusedVariables false
set_option linter.unusedSimpArgs false
namespace Go.Proofs.Ytpapcheliohacaa
open Go.RowKit

theorem cells_setCellD {w : World} {b : Nat} {cs : Array Value} {t : TypeId} {fr : Nat × Nat} (h : w.heap[b]? = some (.cells cs t fr)) (j : Nat) (u : Value) : (w.setCell ⟨b, j, none⟩ u).heap[b]? = some (.cells (cs.setIfInBounds j u) t fr) := by
  have hlt := (Array.getElem?_eq_some_iff.1 h).1
  have h' : w.heap[b] = .cells cs t fr := by simpa [Array.getElem?_eq_getElem hlt] using h
  show (w.heap.modify b _)[b]? = _
  rw [Array.getElem?_eq_getElem (by simpa using hlt), Array.getElem_modify_self, h']
  rfl
theorem results_cellD {P : Program} {fn : Func} {p u : Tmp} {ty : TypeId} (h : fn.results = #[.cell p ty, .tmp u]) (tmps : Array Value) (w : World) (g : Nat) (t : TypeId) (cs : Array Value) (fr : Nat × Nat) (d : TypeDesc)
    (hp : tmps.getD p undef = .pointer (some ⟨g, 0, none⟩)) (hg : w.heap[g]? = some (.cells cs t fr))
    (hu : P.underlying ty = some d) (hd : (match d with | .struct _ | .array _ _ => true | _ => false) = true) (hi : (P.info? ty).map (·.size) = some cs.size) :
    (results fn tmps).run P w = .ok (.tuple #[.agg cs, tmps.getD u undef]) w := by
  rw [results_cell_tmp h, hp]
  simp [asAddr, Result.andThen, run_loadVar_row w g t ty cs fr d hg hu hd hi]

def atV : Option SD → Value
  | none => .agg #[.int .i64 0, .int .i64 0, .int .i64 0]
  | some s => .agg #[.int .i64 1, .int .i64 s.kind, .int .i64 s.top]
theorem pick_stay {l : List SD} {n : Int} {s : SD} {k : Nat} (h : pickK l n k = some s) : ∀ j, pickK l n (k + j) = some s
  | 0 => h
  | j + 1 => by
    show (pickK l n (k + j)).or _ = _
    rw [pick_stay h j]; rfl
theorem endK_step {l : List SD} {k : Nat} (h : fineS (l.getD k sd0) = true) : endK l (k + 1) = endK l k + (l.getD k sd0).many := by
  have := fine_le h
  show (if 0 < (l.getD k sd0).many then endK l k + (l.getD k sd0).many else endK l k) = _
  split <;> omega
theorem endK_mono {l : List SD} (k : Nat) : ∀ j, endK l k ≤ endK l (k + j)
  | 0 => Int.le_refl _
  | j + 1 => by
    have := endK_mono (l := l) k j
    show endK l k ≤ if 0 < (l.getD (k + j) sd0).many then endK l (k + j) + (l.getD (k + j) sd0).many else endK l (k + j)
    split <;> omega
theorem fine_at {l : List SD} (h : allF l l.length = true) {k : Nat} (hk : k < l.length) : fineS (l.getD k sd0) = true := by
  have := allF_le (show k + 1 ≤ l.length from hk) h
  rw [allF_succ, Bool.and_eq_true] at this
  exact this.2
theorem atf_at {l : List SD} {n : Int} {k : Nat} (hf : allF l l.length = true) (hk : k < l.length) (h0 : 0 ≤ n) (h1 : endK l k ≤ n) (h2 : n < endK l (k + 1)) : atf l n = some (l.getD k sd0) := by
  have hm : 0 < (l.getD k sd0).many := by
    rw [endK_step (fine_at hf hk)] at h2
    omega
  have hp : pickK l n (k + 1) = some (l.getD k sd0) := by
    unfold pickK
    rw [pick_mono l n k h1, if_pos ⟨hm, h2⟩]; rfl
  have := pick_stay hp (l.length - (k + 1))
  rw [show k + 1 + (l.length - (k + 1)) = l.length by omega] at this
  have hb := endK_mono (l := l) (k + 1) (l.length - (k + 1))
  rw [show k + 1 + (l.length - (k + 1)) = l.length by omega] at hb
  unfold atf
  rw [if_pos ⟨h0, by omega⟩, this]

set_option maxRecDepth 10000 in
set_option maxHeartbeats 4000000 in
theorem rat_any (l : List SD) (A : Option Addr) (c : Nat) (n : Int) (w : World) (hfit : Fit l) (hr : StripRow w A l) :
    Calls Try.prog 45 #[.slice A l.length c, .int .i64 n] w fun e w' => e = .returned (.tuple #[atV (atf l n), .bool (atf l n).isSome]) ∧ Up w w' := by
  have HR := Lib.hid hr
  have HFT := Lib.hid hfit
  have HES := Lib.hid (end_step hfit.all hfit.few)
  have hli : (l.length : Int) ≤ 1000 := by have := hfit.len; omega
  have hb0 := heap_alloc_new w (.cells #[.int .i64 0, .int .i64 0, .int .i64 0] 63)
  have hu0 : Up w (w.alloc (.cells #[.int .i64 0, .int .i64 0, .int .i64 0] 63)) := (Up.refl w).alloc _
  have HS0 := Lib.hid (And.intro hb0 hu0)
  clear hr hfit hb0 hu0
  go_enter Try.func45, Try.ntmps45
  go_wp2_with fail
  generalize w.alloc (.cells #[.int .i64 0, .int .i64 0, .int .i64 0] 63) = w1 at *
  go_loopw [6, 7] (fun f x wr => ∃ k : Nat, k ≤ l.length ∧ x = .int .i64 k ∧ f = .int .i64 (endK l k) ∧ Hid (n < 0 ∨ endK l k ≤ n) ∧ Hid (wr.heap[w.heap.size]? = some (.cells #[.int .i64 0, .int .i64 0, .int .i64 0] 63) ∧ Up w wr)) (fun _ x _ => l.length - (intOf x).toNat)
  case atStart => exact ⟨0, by omega, rfl, rfl, Lib.hid (by show n < 0 ∨ 0 ≤ n; omega), HS0⟩
  case round =>
    obtain ⟨k, hk, rfl, rfl, HN, HV⟩ := hrel
    by_cases hlt : k < l.length
    · have hki : (k : Int) < l.length := by omega
      have hk0 : (0 : Int) ≤ k := by omega
      have HLT := Lib.hid hlt
      obtain ⟨b, off, rfl, x0, x1, x2⟩ := HR.out.up HV.out.2 k hlt
      have HE0 := Lib.hid (HES.out k hk)
      have HE1 := Lib.hid (HES.out (k + 1) hlt)
      have HST := Lib.hid (endK_step (fine_at HFT.out.all hlt))
      have HAT := Lib.hid (fun h0 h1 h2 => atf_at (n := n) HFT.out.all hlt h0 h1 h2)
      have HM0 := Lib.hid (fine_le (fine_at HFT.out.all hlt))
      obtain ⟨E1, hE1⟩ : ∃ x, endK l (k + 1) = x := ⟨_, rfl⟩
      obtain ⟨E, hE⟩ : ∃ x, endK l k = x := ⟨_, rfl⟩
      rw [hE1] at HE1 HST HAT
      rw [hE] at HE0 HST HAT HN ⊢
      have HQ1 := Lib.hid hE1
      clear hE1 hE hk hlt
      generalize l.getD k sd0 = s at *
      obtain ⟨M, Kd, T⟩ := s
      dsimp only at x0 x1 x2 HST HM0 HAT
      have hw1 : wrap64 (E + M) = E1 := by
        have h1 := HE1.out
        rw [HST.out] at h1 ⊢
        exact IntWalk.wrap64_in _ (by omega)
      have he0 := HE0.out.1
      by_cases hn : n < 0
      · have hd1 : decide (E ≤ n) = false := decide_eq_false (by omega)
        have HN1 : Hid (n < 0 ∨ E1 ≤ n) := Lib.hid (.inl hn)
        go_wp2_with fail
        go_roundw
        case rel => exact ⟨k + 1, HLT.out, by go_num, by rw [HQ1.out, hw1], Lib.hid (by rw [HQ1.out]; exact HN1.out), Lib.hid HV.out⟩
        case measure => simp [intOf]; omega
      · have hge : E ≤ n := by have := HN.out; omega
        by_cases hlt2 : n < E1
        · have HA := Lib.hid (HAT.out (by omega) hge hlt2)
          have hd2 : decide (n < wrap64 (E + M)) = true := by rw [hw1]; exact decide_eq_true hlt2
          have z0 := cell_of_row _ _ 0 _ _ _ HV.out.1
          have z1 := cell_of_row _ _ 1 _ _ _ HV.out.1
          have z2 := cell_of_row _ _ 2 _ _ _ HV.out.1
          simp only [List.getElem?_toArray, List.getElem?_cons_zero, List.getElem?_cons_succ] at z0 z1 z2
          have k0 := frozen_of_row _ _ 0 _ _ HV.out.1
          have k1 := frozen_of_row _ _ 1 _ _ HV.out.1
          have k2 := frozen_of_row _ _ 2 _ _ HV.out.1
          have HFB := Lib.hid (cells_setCellD (cells_setCellD (cells_setCellD HV.out.1 0 (.int .i64 1)) 1 (.int .i64 Kd)) 2 (.int .i64 T))
          have HFU := Lib.hid (show Up w (((wr.setCell ⟨w.heap.size, 0, none⟩ (.int .i64 1)).setCell ⟨w.heap.size, 1, none⟩ (.int .i64 Kd)).setCell ⟨w.heap.size, 2, none⟩ (.int .i64 T)) from ((Below.setCell (p := ⟨w.heap.size, 0, none⟩) HV.out.2 (Nat.le_refl _) _).setCell (p := ⟨w.heap.size, 1, none⟩) (Nat.le_refl _) _).setCell (p := ⟨w.heap.size, 2, none⟩) (Nat.le_refl _) _)
          have hbw : b ≠ w.heap.size := fun e => by
            obtain ⟨b', off', e', y0, _⟩ := HR.out k HLT.out
            injection e' with e'
            injection e' with e1 e2
            have := cell_lt y0
            omega
          have HSV := Lib.hid (show ∀ (a0 a1 a2 : Value), (((wr.setCell ⟨w.heap.size, 0, none⟩ a0).setCell ⟨w.heap.size, 1, none⟩ a1).setCell ⟨w.heap.size, 2, none⟩ a2).heap[b]? = wr.heap[b]? from fun a0 a1 a2 =>
            (Below.heap_setCell ((wr.setCell ⟨w.heap.size, 0, none⟩ a0).setCell ⟨w.heap.size, 1, none⟩ a1) ⟨w.heap.size, 2, none⟩ a2 b hbw).trans ((Below.heap_setCell (wr.setCell ⟨w.heap.size, 0, none⟩ a0) ⟨w.heap.size, 1, none⟩ a1 b hbw).trans (Below.heap_setCell wr ⟨w.heap.size, 0, none⟩ a0 b hbw)))
          clear hbw
          go_wp2_with fail
          refine wp_region_held_drew (S := fun w' => w'.cell? ⟨b, off + k * 3 + 1, none⟩ = some (.int .i64 Kd) ∧ w'.cell? ⟨b, off + k * 3 + 2, none⟩ = some (.int .i64 T)) (by kernel_rfl) (And.intro x1 x2) (fun hS0 => ?_)
          refine wpAnyH_take (i := 0) (v := ?_) rfl (by kernel_rfl) (by kernel_rfl) (by kernel_rfl) (fun _ _ _ h => h) (Or.inl ⟨by kernel_rfl, ?_⟩) hS0 ?_
          rotate_left
          · intro w hSw
            try dsimp only at hSw
            go_simp
            try (with_reducible rfl)
          try simp only [Act.put, List.setIfInBounds_toArray, List.set_cons_zero, List.set_cons_succ]
          refine wpAnyH_take (i := 1) (v := ?_) rfl (by kernel_rfl) (by kernel_rfl) (by kernel_rfl) (fun _ _ _ h => h) (Or.inl ⟨by kernel_rfl, ?_⟩) hS0 ?_
          rotate_left
          · intro w hSw
            try dsimp only at hSw
            go_simp
            try (with_reducible rfl)
          try simp only [Act.put, List.setIfInBounds_toArray, List.set_cons_zero, List.set_cons_succ]
          refine wpAnyH_take (i := 2) (v := ?_) rfl (by kernel_rfl) (by kernel_rfl) (by kernel_rfl) (fun _ _ _ h => h) (Or.inl ⟨by kernel_rfl, ?_⟩) hS0 ?_
          rotate_left
          · intro w hSw
            try dsimp only at hSw
            go_simp
            try (with_reducible rfl)
          try simp only [Act.put, List.setIfInBounds_toArray, List.set_cons_zero, List.set_cons_succ]
          refine wpAnyH_take (i := 3) (v := ?_) rfl (by kernel_rfl) (by kernel_rfl) (by kernel_rfl) (fun _ _ _ h => h) (Or.inl ⟨by kernel_rfl, ?_⟩) hS0 ?_
          rotate_left
          · intro w hSw
            try dsimp only at hSw
            go_simp
            try (with_reducible rfl)
          try simp only [Act.put, List.setIfInBounds_toArray, List.set_cons_zero, List.set_cons_succ]
          refine wpAnyH_take (i := 4) (v := ?_) rfl (by kernel_rfl) (by kernel_rfl) (by kernel_rfl) (fun _ _ _ h => h) (Or.inl ⟨by kernel_rfl, ?_⟩) hS0 ?_
          rotate_left
          · intro w hSw
            try dsimp only at hSw
            go_simp
            try (with_reducible rfl)
          try simp only [Act.put, List.setIfInBounds_toArray, List.set_cons_zero, List.set_cons_succ]
          refine wpAnyH_take (i := 5) (v := ?_) rfl (by kernel_rfl) (by kernel_rfl) (by kernel_rfl) (fun _ _ _ h => h) (Or.inl ⟨by kernel_rfl, ?_⟩) hS0 ?_
          rotate_left
          · intro w hSw
            try dsimp only at hSw
            go_simp
            try (with_reducible rfl)
          try simp only [Act.put, List.setIfInBounds_toArray, List.set_cons_zero, List.set_cons_succ]
          refine wpAnyH_take (i := 6) (v := ?_) rfl (by kernel_rfl) (by kernel_rfl) (by kernel_rfl) (fun _ _ _ h => h) (Or.inl ⟨by kernel_rfl, ?_⟩) hS0 ?_
          rotate_left
          · intro w hSw
            try dsimp only at hSw
            go_simp
            try (with_reducible rfl)
          try simp only [Act.put, List.setIfInBounds_toArray, List.set_cons_zero, List.set_cons_succ]
          refine wpAnyH_take (i := 7) (v := ?_) rfl (by kernel_rfl) (by kernel_rfl) (by kernel_rfl) (fun _ _ _ h => h) (Or.inl ⟨by kernel_rfl, ?_⟩) hS0 ?_
          rotate_left
          · intro w hSw
            try dsimp only at hSw
            go_simp
            try (with_reducible rfl)
          try simp only [Act.put, List.setIfInBounds_toArray, List.set_cons_zero, List.set_cons_succ]
          refine wpAnyH_take (i := 8) (v := ?_) rfl (by kernel_rfl) (by kernel_rfl) (by kernel_rfl) (fun _ _ _ h => h) (Or.inl ⟨by kernel_rfl, ?_⟩) hS0 ?_
          rotate_left
          · intro w hSw
            try dsimp only at hSw
            go_simp
            try (with_reducible rfl)
          try simp only [Act.put, List.setIfInBounds_toArray, List.set_cons_zero, List.set_cons_succ]
          refine wpAnyH_take (i := 9) (v := ?_) rfl (by kernel_rfl) (by kernel_rfl) (by kernel_rfl) (fun _ _ _ h => h) (Or.inl ⟨by kernel_rfl, ?_⟩) hS0 ?_
          rotate_left
          · intro w hSw
            try dsimp only at hSw
            go_simp
            try (with_reducible rfl)
          try simp only [Act.put, List.setIfInBounds_toArray, List.set_cons_zero, List.set_cons_succ]
          refine wpAnyH_take (i := 10) (v := ?_) rfl (by kernel_rfl) (by kernel_rfl) (by kernel_rfl) (fun _ _ _ h => h) (Or.inl ⟨by kernel_rfl, ?_⟩) hS0 ?_
          rotate_left
          · intro w hSw
            try dsimp only at hSw
            go_simp
            try (with_reducible rfl)
          try simp only [Act.put, List.setIfInBounds_toArray, List.set_cons_zero, List.set_cons_succ]
          refine wpAnyH_ready (rs := [11]) (by kernel_rfl) (by simp) ?_
          refine AllReadyH.cons rfl (fun K hK => ?_) AllReadyH.nil
          go_simp
          refine hK.out _ _ (And.intro ((cellE (HSV.out _ _ _)).trans x1) ((cellE (HSV.out _ _ _)).trans x2)) (fun hS1 => ?_)
          clear hK K
          try simp only [Act.put, List.setIfInBounds_toArray, List.set_cons_zero, List.set_cons_succ]
          refine wpAnyH_take (i := 12) (v := ?_) rfl (by kernel_rfl) (by kernel_rfl) (by kernel_rfl) (fun _ _ _ h => h) (Or.inl ⟨by kernel_rfl, ?_⟩) hS1 ?_
          rotate_left
          · intro w hSw
            try dsimp only at hSw
            go_simp
            try (with_reducible rfl)
          try simp only [Act.put, List.setIfInBounds_toArray, List.set_cons_zero, List.set_cons_succ]
          refine wpAnyH_done (by kernel_rfl) ?_ _
          try simp only [Act.put, List.setIfInBounds_toArray, List.set_cons_zero, List.set_cons_succ, List.getElem_toArray, List.getElem_cons_succ, List.getElem_cons_zero]
          clear hS0 hS1 x0 x1 x2 z0 z1 z2 k0 k1 k2
          go_wp2_with fail
          refine bodyPost_ret (v := .tuple #[.agg #[.int .i64 1, .int .i64 Kd, .int .i64 T], .bool true]) ?_ rfl ⟨by rw [HA.out]; rfl, HFU.out.drew⟩
          have hfd : ((((wr.setCell ⟨w.heap.size, 0, none⟩ (.int .i64 1)).setCell ⟨w.heap.size, 1, none⟩ (.int .i64 Kd)).setCell ⟨w.heap.size, 2, none⟩ (.int .i64 T)).drew).heap[w.heap.size]? = _ := HFB.out
          exact (results_cellD (p := 4) (u := 5) (ty := 63) rfl _ _ w.heap.size 63 _ _ _ rfl hfd Try.underlying63 rfl (by kernel_rfl)).trans rfl
        · have hd2 : decide (n < wrap64 (E + M)) = false := by rw [hw1]; exact decide_eq_false hlt2
          have HN1 : Hid (n < 0 ∨ E1 ≤ n) := Lib.hid (by omega)
          go_wp2_with fail
          go_roundw
          case rel => exact ⟨k + 1, HLT.out, by go_num, by rw [HQ1.out, hw1], Lib.hid (by rw [HQ1.out]; exact HN1.out), Lib.hid HV.out⟩
          case measure => simp [intOf]; omega
    · obtain rfl : k = l.length := by omega
      have HA : Hid (atf l n = none) := Lib.hid (by unfold atf; rw [if_neg (by have := HN.out; omega)])
      have z0 := cell_of_row _ _ 0 _ _ _ HV.out.1
      have z1 := cell_of_row _ _ 1 _ _ _ HV.out.1
      have z2 := cell_of_row _ _ 2 _ _ _ HV.out.1
      simp only [List.getElem?_toArray, List.getElem?_cons_zero, List.getElem?_cons_succ] at z0 z1 z2
      have k0 := frozen_of_row _ _ 0 _ _ HV.out.1
      have k1 := frozen_of_row _ _ 1 _ _ HV.out.1
      have k2 := frozen_of_row _ _ 2 _ _ HV.out.1
      have HFB := Lib.hid (cells_setCellD (cells_setCellD (cells_setCellD HV.out.1 0 (.int .i64 0)) 1 (.int .i64 0)) 2 (.int .i64 0))
      have HFU := Lib.hid (show Up w (((wr.setCell ⟨w.heap.size, 0, none⟩ (.int .i64 0)).setCell ⟨w.heap.size, 1, none⟩ (.int .i64 0)).setCell ⟨w.heap.size, 2, none⟩ (.int .i64 0)) from ((Below.setCell (p := ⟨w.heap.size, 0, none⟩) HV.out.2 (Nat.le_refl _) _).setCell (p := ⟨w.heap.size, 1, none⟩) (Nat.le_refl _) _).setCell (p := ⟨w.heap.size, 2, none⟩) (Nat.le_refl _) _)
      clear hlt hk
      go_wp2_with fail
      refine bodyPost_ret (v := .tuple #[.agg #[.int .i64 0, .int .i64 0, .int .i64 0], .bool false]) ?_ rfl ⟨by rw [HA.out]; rfl, HFU.out⟩
      exact (results_cellD (p := 4) (u := 5) (ty := 63) rfl _ _ w.heap.size 63 _ _ _ rfl HFB.out Try.underlying63 rfl (by kernel_rfl)).trans rfl

end Go.Proofs.Ytpapcheliohacaa
