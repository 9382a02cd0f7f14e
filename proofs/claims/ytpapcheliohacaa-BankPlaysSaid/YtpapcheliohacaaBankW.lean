/-
  bank.At at the example; a bank that lives; the chapter's example.
-/
import Derived.Test.YtpapcheliohacaaBankK
import Derived.Test.YtpapcheliohacaaBankU
import Derived.Laws.ResultCell
set_option linter.unusedVariables false
set_option linter.unusedSimpArgs false
namespace Go.Proofs.Ytpapcheliohacaa
open Go.RowKit

theorem cells_setCell {w : World} {b : Nat} {cs : Array Value} {t : TypeId} {fr : Nat × Nat} (h : w.heap[b]? = some (.cells cs t fr)) (j : Nat) (u : Value) : (w.setCell ⟨b, j, none⟩ u).heap[b]? = some (.cells (cs.setIfInBounds j u) t fr) := by
  have hlt := (Array.getElem?_eq_some_iff.1 h).1
  have h' : w.heap[b] = .cells cs t fr := by simpa [Array.getElem?_eq_getElem hlt] using h
  show (w.heap.modify b _)[b]? = _
  rw [Array.getElem?_eq_getElem (by simpa using hlt), Array.getElem_modify_self, h']
  rfl
theorem results_cell2 {P : Program} {fn : Func} {p u : Tmp} {ty : TypeId} (h : fn.results = #[.cell p ty, .tmp u]) (tmps : Array Value) (w : World) (g : Nat) (t : TypeId) (cs : Array Value) (fr : Nat × Nat) (d : TypeDesc)
    (hp : tmps.getD p undef = .pointer (some ⟨g, 0, none⟩)) (hg : w.heap[g]? = some (.cells cs t fr))
    (hu : P.underlying ty = some d) (hd : (match d with | .struct _ | .array _ _ => true | _ => false) = true) (hi : (P.info? ty).map (·.size) = some cs.size) :
    (results fn tmps).run P w = .ok (.tuple #[.agg cs, tmps.getD u undef]) w := by
  rw [results_cell_tmp h, hp]
  simp [asAddr, Result.andThen, run_loadVar_row w g t ty cs fr d hg hu hd hi]

def exL : List SD := [⟨2, 1, 1⟩, ⟨1, 3, 9⟩]
set_option maxRecDepth 10000 in
set_option maxHeartbeats 1000000 in
theorem at_ex (A : Option Addr) (c : Nat) (w : World) (hr : StripRow w A exL) :
    Calls Try.prog 39 #[.slice A 2 c, .int .i64 2] w fun e w' => e = .returned (.tuple #[.agg #[.int .i64 1, .int .i64 3, .int .i64 9], .bool true]) ∧ Up w w' := by
  have hr1 : StripRow (w.alloc (.cells #[.int .i64 0, .int .i64 0, .int .i64 0] 63)) A exL := hr.up ((Up.refl w).alloc _)
  have HCO := Lib.hid (show Calls Try.prog 40 #[.slice A 2 c] (w.alloc (.cells #[.int .i64 0, .int .i64 0, .int .i64 0] 63)) fun e w' => e = .returned (.tuple #[.int .i64 3, .int .i64 0]) ∧ Up (w.alloc (.cells #[.int .i64 0, .int .i64 0, .int .i64 0] 63)) w' from count_any exL A c _ (by decide) hr1)
  have HU0 := Lib.hid ((Up.refl w).alloc (.cells #[.int .i64 0, .int .i64 0, .int .i64 0] 63))
  have HR := Lib.hid hr
  have HB0 := Lib.hid (heap_alloc_new w (.cells #[.int .i64 0, .int .i64 0, .int .i64 0] 63))
  clear hr hr1
  go_enter Try.func39, Try.ntmps39
  go_wp2_with fail
  refine HCO.out.mono ?_
  rintro e w1 ⟨rfl, hu1⟩
  have HU1 := Lib.hid (HU0.out.trans hu1)
  have HB1 := Lib.hid ((hu1.block w.heap.size (by simp)).trans HB0.out)
  clear hu1 HCO HU0 HB0
  go_wp2_with fail
  go_loopw [1, 29] (fun n x wr => ((x = .int .i64 0 ∧ n = .int .i64 2) ∨ (x = .int .i64 1 ∧ n = .int .i64 0)) ∧ Hid (wr.heap[w.heap.size]? = some (.cells #[.int .i64 0, .int .i64 0, .int .i64 0] 63) ∧ Up w wr)) (fun _ x _ => 2 - (intOf x).toNat)
  case atStart => exact ⟨.inl ⟨rfl, rfl⟩, Lib.hid ⟨HB1.out, HU1.out⟩⟩
  case round =>
    obtain ⟨hkn, HV⟩ := hrel
    rcases hkn with ⟨rfl, rfl⟩ | ⟨rfl, rfl⟩
    · obtain ⟨b, off, rfl, x0, x1, x2⟩ := HR.out.up HV.out.2 0 (by decide)
      have x0 : wr.cell? ⟨b, off, none⟩ = some (.int .i64 2) := x0
      have x1 : wr.cell? ⟨b, off + 1, none⟩ = some (.int .i64 1) := x1
      have x2 : wr.cell? ⟨b, off + 2, none⟩ = some (.int .i64 1) := x2
      have hb := heap_alloc_new wr (.cells #[.int .i64 2, .int .i64 1, .int .i64 1] 63)
      have y0 : (wr.alloc (.cells #[.int .i64 2, .int .i64 1, .int .i64 1] 63)).cell? ⟨wr.heap.size, 0, none⟩ = some (.int .i64 2) := cell_of_row _ _ 0 _ _ _ hb
      have HV2 := Lib.hid (And.intro ((((Up.refl wr).alloc (.cells #[.int .i64 2, .int .i64 1, .int .i64 1] 63)).block w.heap.size (Array.getElem?_eq_some_iff.1 HV.out.1).1).trans HV.out.1) (HV.out.2.alloc (.cells #[.int .i64 2, .int .i64 1, .int .i64 1] 63)))
      clear hb
      go_wp2_with fail
      go_roundw
      case rel => exact ⟨.inr ⟨rfl, rfl⟩, HV2⟩
      case measure => decide
    · obtain ⟨b, off, rfl, x0, x1, x2⟩ := HR.out.up HV.out.2 1 (by decide)
      replace x0 : wr.cell? ⟨b, off + 3, none⟩ = some (.int .i64 1) := x0
      replace x1 : wr.cell? ⟨b, off + 3 + 1, none⟩ = some (.int .i64 3) := x1
      replace x2 : wr.cell? ⟨b, off + 3 + 2, none⟩ = some (.int .i64 9) := x2
      have hb := heap_alloc_new wr (.cells #[.int .i64 1, .int .i64 3, .int .i64 9] 63)
      have hlw := (Array.getElem?_eq_some_iff.1 HV.out.1).1
      have hne : w.heap.size ≠ wr.heap.size := by omega
      have HU2 := Lib.hid (HV.out.2.alloc (.cells #[.int .i64 1, .int .i64 3, .int .i64 9] 63))
      have ho := (((Up.refl wr).alloc (.cells #[.int .i64 1, .int .i64 3, .int .i64 9] 63)).block w.heap.size hlw).trans HV.out.1
      obtain ⟨z, hz⟩ : ∃ z, wr.heap.size = z := ⟨_, rfl⟩
      rw [hz] at hb hne
      have hzw : w.heap.size < z := by rw [← hz]; exact hlw
      obtain ⟨w5, hw5⟩ : ∃ x, wr.alloc (.cells #[.int .i64 1, .int .i64 3, .int .i64 9] 63) = x := ⟨_, rfl⟩
      rw [hw5] at hb HU2 ho
      have y0 := cell_of_row _ _ 0 _ _ _ hb
      have y1 := cell_of_row _ _ 1 _ _ _ hb
      have y2 := cell_of_row _ _ 2 _ _ _ hb
      simp only [List.getElem?_toArray, List.getElem?_cons_zero, List.getElem?_cons_succ] at y0 y1 y2
      have f0 := frozen_of_row _ _ 0 _ _ hb
      have hU6 : Up w (w5.setCell ⟨z, 0, none⟩ (.int .i64 1)) := Below.setCell (p := ⟨z, 0, none⟩) HU2.out (show w.heap.size ≤ z by omega) _
      have ho6 := (Below.heap_setCell w5 ⟨z, 0, none⟩ (.int .i64 1) w.heap.size hne).trans ho
      have g0 : (w5.setCell ⟨z, 0, none⟩ (.int .i64 1)).cell? ⟨z, 0, none⟩ = some (.int .i64 1) := World.cell?_setCell_same _ _ _ y0
      have g1 : (w5.setCell ⟨z, 0, none⟩ (.int .i64 1)).cell? ⟨z, 1, none⟩ = some (.int .i64 3) := (World.cell?_setCell_other _ _ _ _ (by simp)).trans y1
      have g2 : (w5.setCell ⟨z, 0, none⟩ (.int .i64 1)).cell? ⟨z, 2, none⟩ = some (.int .i64 9) := (World.cell?_setCell_other _ _ _ _ (by simp)).trans y2
      obtain ⟨w6, hw6⟩ : ∃ x, w5.setCell ⟨z, 0, none⟩ (.int .i64 1) = x := ⟨_, rfl⟩
      rw [hw6] at hU6 ho6 g0 g1 g2
      have z0 := cell_of_row _ _ 0 _ _ _ ho6
      have z1 := cell_of_row _ _ 1 _ _ _ ho6
      have z2 := cell_of_row _ _ 2 _ _ _ ho6
      simp only [List.getElem?_toArray, List.getElem?_cons_zero, List.getElem?_cons_succ] at z0 z1 z2
      have k0 := frozen_of_row _ _ 0 _ _ ho6
      have k1 := frozen_of_row _ _ 1 _ _ ho6
      have k2 := frozen_of_row _ _ 2 _ _ ho6
      have HFB := Lib.hid (cells_setCell (cells_setCell (cells_setCell ho6 0 (.int .i64 1)) 1 (.int .i64 3)) 2 (.int .i64 9))
      have HFU := Lib.hid (show Up w (((w6.setCell ⟨w.heap.size, 0, none⟩ (.int .i64 1)).setCell ⟨w.heap.size, 1, none⟩ (.int .i64 3)).setCell ⟨w.heap.size, 2, none⟩ (.int .i64 9)) from ((Below.setCell (p := ⟨w.heap.size, 0, none⟩) hU6 (Nat.le_refl _) _).setCell (p := ⟨w.heap.size, 1, none⟩) (Nat.le_refl _) _).setCell (p := ⟨w.heap.size, 2, none⟩) (Nat.le_refl _) _)
      clear hb ho hlw hU6 ho6
      go_wp2_with fail
      refine bodyPost_ret (v := .tuple #[.agg #[.int .i64 1, .int .i64 3, .int .i64 9], .bool true]) ?_ rfl ⟨rfl, HFU.out⟩
      exact (results_cell2 (p := 4) (u := 5) (ty := 63) rfl _ _ w.heap.size 63 _ _ _ rfl HFB.out Try.underlying63 rfl (by kernel_rfl)).trans rfl

/-- A bank beyond all that was there, beside the blocks of Z. -/
def HeldB (w0 w : World) (h : Nat) (l : List SD) (s : BS) (N : Nat) (Z : Nat → Prop) : Prop := Up w0 w ∧ ∃ B X, w0.heap.size ≤ B ∧ BankM w B h l s N X ∧ ∀ z, Z z → z < w.heap.size ∧ ¬ X z
theorem HeldB.less {w0 w : World} {h N : Nat} {l : List SD} {s : BS} {Z Z' : Nat → Prop} (L : HeldB w0 w h l s N Z) (hZ : ∀ z, Z' z → Z z) : HeldB w0 w h l s N Z' := by
  obtain ⟨h1, B, X, h2, h3, h4⟩ := L
  exact ⟨h1, B, X, h2, h3, fun z hz => h4 z (hZ z hz)⟩
/-- New blocks are beside it. -/
theorem HeldB.grow {w0 w w' : World} {h N : Nat} {l : List SD} {s : BS} {Z : Nat → Prop} (L : HeldB w0 w h l s N Z) (u : Up w w') : HeldB w0 w' h l s N (fun k => Z k ∨ (w.heap.size ≤ k ∧ k < w'.heap.size)) := by
  obtain ⟨h1, B, X, h2, h3, h4⟩ := L
  refine ⟨h1.trans u, B, X, h2, h3.up u, fun z hz => ?_⟩
  rcases hz with hz | hz
  · exact ⟨Nat.lt_of_lt_of_le (h4 z hz).1 u.size, (h4 z hz).2⟩
  · exact ⟨hz.2, fun hx => by have := (h3.lt z hx).2; omega⟩
theorem HeldB.up {w0 w w' : World} {h N : Nat} {l : List SD} {s : BS} {Z : Nat → Prop} (L : HeldB w0 w h l s N Z) (u : Up w w') : HeldB w0 w' h l s N Z := (L.grow u).less fun z hz => .inl hz
theorem HeldB.step {w0 w w' : World} {B h N N' : Nat} {l : List SD} {s s' : BS} {X Z : Nat → Prop} (h1 : Up w0 w) (h2 : w0.heap.size ≤ B) (h3 : BankM w B h l s N X) (h4 : ∀ z, Z z → z < w.heap.size ∧ ¬ X z) (hb : BankM w' B h l s' N' (XG X w w')) (hf : Fr w w' X) :
    HeldB w0 w' h l s' N' Z ∧ ∀ z, Z z → w'.heap[z]? = w.heap[z]? := by
  refine ⟨⟨hf.toUp h1 (fun k hk => Nat.le_trans h2 (h3.lt k hk).1), B, _, h2, hb, fun z hz => ⟨Nat.lt_of_lt_of_le (h4 z hz).1 hf.size, fun hx => ?_⟩⟩, fun z hz => hf.block z (h4 z hz).1 (h4 z hz).2⟩
  rcases hx with hx | hx
  · exact (h4 z hz).2 hx
  · have := (h4 z hz).1; omega
theorem begin_heldB (h N : Nat) (l : List SD) (s : BS) (t k cl v : Int) (w0 w : World) (Z : Nat → Prop) (hf : Fit l) (ht0 : -9223372036854775808 ≤ t) (ht1 : t ≤ 9223372036854775807) (L : HeldB w0 w h l s N Z) (hN : N ≤ 900) :
    Calls Try.prog 22 #[.pointer (some ⟨h, 0, none⟩), .int .i64 t, .agg #[.int .i64 k, .int .i64 cl, .int .i64 v]] w fun e w' => e = .returned (.int .i64 (s.begin (cntK l l.length) 6 (mkP l) t k cl v).1) ∧ HeldB w0 w' h l (s.begin (cntK l l.length) 6 (mkP l) t k cl v).2 (N + 9) Z ∧ ∀ z, Z z → w'.heap[z]? = w.heap[z]? := by
  obtain ⟨h1, B, X, h2, h3, h4⟩ := L
  exact (beginM_any l B h N s X t k cl v w hf ht0 ht1 h3 hN).mono fun e w' ⟨he, hb, hfr⟩ => ⟨he, HeldB.step h1 h2 h3 h4 hb hfr⟩
theorem end_heldB (h N : Nat) (l : List SD) (s : BS) (t d : Int) (w0 w : World) (Z : Nat → Prop) (mk : Int → CS) (ht0 : -9223372036854775808 ≤ t) (ht1 : t ≤ 9223372036854775807) (L : HeldB w0 w h l s N Z) (hN : N ≤ 1000) :
    Calls Try.prog 20 #[.pointer (some ⟨h, 0, none⟩), .int .i64 t, .int .i64 d] w fun e w' => e = .returned (.tuple #[.int .i64 (s.endA mk t d).1, .int .i64 (s.endA mk t d).2.1]) ∧ HeldB w0 w' h l (s.endA mk t d).2.2 N Z ∧ ∀ z, Z z → w'.heap[z]? = w.heap[z]? := by
  obtain ⟨h1, B, X, h2, h3, h4⟩ := L
  exact (endM_any l B h N s X t d w ht0 ht1 h3 hN mk).mono fun e w' ⟨he, hb, hfr⟩ => ⟨he, HeldB.step h1 h2 h3 h4 hb hfr⟩
theorem busy_heldB (h N : Nat) (l : List SD) (s : BS) (t : Int) (w0 w : World) (Z : Nat → Prop) (ht0 : -9223372036854775808 ≤ t) (ht1 : t ≤ 9223372036854775807) (L : HeldB w0 w h l s N Z) :
    Calls Try.prog 24 #[.pointer (some ⟨h, 0, none⟩), .int .i64 t] w fun e w' => e = .returned (.tuple #[.int .i64 (s.busy t).1, .bool (s.busy t).2]) ∧ Up w w' := by
  obtain ⟨h1, B, X, h2, h3, h4⟩ := L
  exact busyM_any l B h N s X t w ht0 ht1 h3
theorem value_heldB (h N : Nat) (l : List SD) (s : BS) (n : Int) (w0 w : World) (Z : Nat → Prop) (hn : Wf n) (L : HeldB w0 w h l s N Z) :
    Calls Try.prog 26 #[.pointer (some ⟨h, 0, none⟩), .int .i64 n] w fun e w' => e = .returned (.int .i64 (s.value n)) ∧ w' = w := by
  obtain ⟨h1, B, X, h2, h3, h4⟩ := L
  exact valueM_any l B h N s X n w hn h3
theorem lenB_any (b : Nat) (R : Value) (many : Int) (m : Nat) (by' : Nat → Bool × Int) (w : World) (HB : BankB w b R many m by') :
    Calls Try.prog 41 #[.pointer (some ⟨b, 0, none⟩)] w fun e w' => e = .returned (.int .i64 many) ∧ w' = w := by
  have k1 := HB.k1
  clear HB
  go_enter Try.func41, Try.ntmps41
  go_wp2_with fail
  go_ret
  exact ⟨rfl, rfl⟩
theorem len_heldB (h N : Nat) (l : List SD) (s : BS) (w0 w : World) (Z : Nat → Prop) (L : HeldB w0 w h l s N Z) :
    Calls Try.prog 41 #[.pointer (some ⟨h, 0, none⟩)] w fun e w' => e = .returned (.int .i64 (cntK l l.length)) ∧ w' = w := by
  obtain ⟨h1, B, X, h2, ⟨m, R, sz, F, MS, h3, h4, h5, h6, h7, h8⟩, h9⟩ := L
  exact lenB_any h R _ m s.by' w h3.blk
/-- The cells' numbers, ascending: as a list of their own. -/
def UsedL (s : BS) (L : List Int) : Prop := L.Pairwise (fun a b => a < b) ∧ ∀ x, x ∈ L ↔ (Wf x ∧ (getU s.u x).isSome = true)
theorem used_heldB (h N : Nat) (l : List SD) (s : BS) (w0 w : World) (Z : Nat → Prop) (hN : N ≤ 1000) (L : HeldB w0 w h l s N Z) :
    Calls Try.prog 29 #[.pointer (some ⟨h, 0, none⟩)] w fun e w' => ∃ (v : Value) (L : List Int), e = .returned v ∧ UsedL s L ∧ w'.ownsRow w.heap.size 3 1 v L.length (L.map (Value.int .i64)) ∧ Up w w' := by
  obtain ⟨h1, B, X, h2, ⟨m, R, sz, F, MS, h3, h4, h5, h6, h7, h8⟩, h9⟩ := L
  exact (used_any h R _ m sz s.by' F w (by omega) h3.blk h3.map).mono fun e w' ⟨v, L, he, hu, hr, hup⟩ => ⟨v, L, he, ⟨hu.1, fun x => by rw [hu.2 x, h4.dom x]⟩, hr, hup⟩

end Go.Proofs.Ytpapcheliohacaa
