/-
  Package bench: New.
-/
import Derived.Test.YtedkgamecdmjdaaBenH
set_option linter.unusedVariables false
set_option linter.unusedSimpArgs false
namespace Go.Proofs.Ytedkgamecdmjdaa
open Go.RowKit

theorem cloneI_nil (w : World) : Calls Try.prog 26 #[.slice none 0 0] w fun e w' => e = .returned (.slice none 0 0) ∧ w' = w := by
  have hnil := fun W : World => Lib.run_eql_slice_nil (P := Try.prog) W 43 3 none 0 0 0 0 Try.underlying43
  go_enter Try.func26, Try.ntmps26
  go_wp2_with fail
  go_ret
  exact ⟨rfl, rfl⟩

theorem newB_few (l : List SD) (A : Option Addr) (c : Nat) (f : Value) (w : World) (hl : l.length ≤ 1000) (hr : StripRow w A l) (h0 : (countP l).2 = 0) :
    Calls Try.prog 12 #[.slice A l.length c, .slice none 0 0, f, .slice none 0 0] w fun e w' => e = .returned (.tuple #[.pointer none, .int .i64 1]) ∧ Up w w' := by
  have HC := Lib.hid (newM_any l A c w hl hr)
  have H0 := Lib.hid h0
  clear hl hr h0
  go_enter Try.func12, Try.ntmps12
  go_wp2_with fail
  refine HC.out.mono ?_
  intro e w1 h1
  unfold NewM at h1
  rw [if_neg (by rw [H0.out]; simp)] at h1
  obtain ⟨h, X, rfl, _, hu⟩ := h1
  have HU := Lib.hid hu
  clear hu HC
  go_wp2_with fail
  go_ret2
  exact ⟨rfl, HU.out⟩
set_option maxRecDepth 10000 in
theorem newB_nil (l : List SD) (A : Option Addr) (c : Nat) (M : Option Addr) (cm : Nat) (w : World) (hl : l.length ≤ 1000) (hr : StripRow w A l) (h0 : (countP l).2 = 0) :
    Calls Try.prog 12 #[.slice A l.length c, .slice M 1 cm, Value.nilFunc, .slice none 0 0] w fun e w' => e = .returned (.tuple #[.pointer none, .int .i64 2]) ∧ Up w w' := by
  have hneq : ∀ W : World, (binOp .eql 46 .nilFunc .nilFunc).run Try.prog W = .ok (.bool true) W := fun _ => by kernel_rfl
  have HC := Lib.hid (newM_any l A c w hl hr)
  have H0 := Lib.hid h0
  clear hl hr h0
  go_enter Try.func12, Try.ntmps12
  go_wp2_with fail
  refine HC.out.mono ?_
  intro e w1 h1
  unfold NewM at h1
  rw [if_neg (by rw [H0.out]; simp)] at h1
  obtain ⟨h, X, rfl, _, hu⟩ := h1
  have HU := Lib.hid hu
  clear hu HC
  go_wp2_with fail
  go_ret2
  exact ⟨rfl, HU.out⟩

theorem infoTh : (Try.prog.info? 57).map (fun i => (i.zero, i.size, i.bytes)) = some (some (.agg #[.int .i64 0, .int .i64 0, .slice none 0 0, .slice none 0 0, .int .i64 0, .int .i64 0, .int .i64 0, .int .i64 0, .int .i64 0]), 9, 104) := by kernel_rfl
theorem cs_block {w : World} {b : Nat} {cs : Array Value} {t : TypeId} (h : w.heap[b]? = some (.cells cs t (0, 0))) (n : Nat) (f : Nat → Value) (hf : ∀ j, j < n → cs[j]? = some (f j)) : Cs w b n f :=
  ⟨fun j hj => (cell_of_row w b j _ _ _ h).trans (hf j hj), fun j => frozen_of_row w b j _ _ h⟩
theorem cs_own {w : World} {B g cap : Nat} {e : TypeId} {size : Nat} {xs : List Value} (h : w.ownsRow B e size (.slice (some ⟨g, 0, none⟩) 1 cap) 1 xs) (f : Nat → Value) (hf : ∀ j, j < size → xs[j]? = some (f j)) : Cs w g size f := by
  rcases h.2 with ⟨h1, _⟩ | ⟨g', cap', cur, h1, _, h2, _, _, _, h3⟩
  · cases h1
  · simp only [Value.slice.injEq, Option.some.injEq, Addr.mk.injEq] at h1
    obtain ⟨⟨rfl, _⟩, _, _⟩ := h1
    refine cs_block h2 size f fun j hj => ?_
    have := hf j hj
    rw [← h3, List.getElem?_take, if_pos (by omega)] at this
    simpa using this
/-- A new bench. -/
def tb0 (n : Int) : TB := ⟨n, 0, [], [], (0, 0, 0), 0, 0, 0, 0⟩

theorem new_ben {w w2 w3 w5 : World} {b g h c1 : Nat} {f : Value} {l : List SD} {n : Int} {X : Nat → Prop} (hU : Up w w2) (hB : BankM w2 w.heap.size h l bs0 0 X) (hU3 : Up w2 w3) (hs : w3.heap.size = b + 1) (hb : w2.heap.size = b) (hblk : w3.heap[b]? = some (.cells #[.pointer (some ⟨h, 0, none⟩), .slice none 0 0, f, .slice none 0 0, .int .i64 0, .int .i64 0, .slice none 0 0] 53 (0, 0)))
    (ho : w5.ownsRow w.heap.size 57 9 (.slice (some ⟨g, 0, none⟩) 1 c1) 1 [.int .i64 n, .int .i64 0, .slice none 0 0, .slice none 0 0, .int .i64 0, .int .i64 0, .int .i64 0, .int .i64 0, .int .i64 0]) (hg : w3.grownBy w5 none) (hge : w3.heap.size ≤ g) :
    w5.cell? ⟨b, 1, none⟩ = some (.slice none 0 0) ∧ w5.frozen? ⟨b, 1, none⟩ = false ∧ Ben w (w5.setCell ⟨b, 1, none⟩ (.slice (some ⟨g, 0, none⟩) 1 c1)) b g h c1 f l (tb0 n) bs0 0 (.slice none 0 0) (.slice none 0 0) (.slice none 0 0) X := by
  have hU5 : Up w3 w5 := grownBy_below hg (Nat.le_refl _) (fun k e => by cases e)
  have hb5 := (hU5.block b (by omega)).trans hblk
  have hwb : w.heap.size ≤ b := by rw [← hb]; exact hU.size
  have hUU : Up w w5 := (hU.trans hU3).trans hU5
  have hk : ∀ k, k ≠ b → (w5.setCell ⟨b, 1, none⟩ (.slice (some ⟨g, 0, none⟩) 1 c1)).heap[k]? = w5.heap[k]? := fun k hne => Below.heap_setCell w5 ⟨b, 1, none⟩ _ k hne
  have hX : ∀ k, X k → k < b := fun k hx => by rw [← hb]; exact (hB.lt k hx).2
  have hcb : Cs w5 b 7 (fun j => (#[Value.pointer (some ⟨h, 0, none⟩), .slice none 0 0, f, .slice none 0 0, .int .i64 0, .int .i64 0, .slice none 0 0] : Array Value).getD j undef) := cs_block hb5 7 _ (fun j hj => by match j, hj with | 0, _ | 1, _ | 2, _ | 3, _ | 4, _ | 5, _ | 6, _ => rfl)
  refine ⟨hcb.cell 1 (by decide), hcb.fz 1, hUU.setCell (p := ⟨b, 1, none⟩) hwb _, hcb.set (by decide) _ (fun i hi => by match i, hi with | 0, _ | 1, _ | 2, _ | 3, _ | 4, _ | 5, _ | 6, _ => rfl), (cs_own ho _ (fun j hj => by match j, hj with | 0, _ | 1, _ | 2, _ | 3, _ | 4, _ | 5, _ | 6, _ | 7, _ | 8, _ => rfl)).keep (hk g (by omega)),
    ⟨[], own_nil _ _ _ _, fun u hu => (by cases hu)⟩, own_nil _ _ _ _, own_nil _ _ _ _, ⟨hwb, by omega⟩, by omega, ⟨fun hx => by have := hX b hx; omega, fun hx => by have := hX g hx; omega⟩, fun k e => by simp [Value.ownBlock] at e, fun k e => by simp [Value.ownBlock] at e, fun k e => by simp [Value.ownBlock] at e, hB.keep (by simp; exact Nat.le_trans hU3.size hU5.size) fun k hx => ?_⟩
  have hlt := hX k hx
  exact (hk k (by omega)).trans ((hU5.block k (by omega)).trans (hU3.block k (by rw [hb]; exact hlt)))

set_option maxRecDepth 10000 in
set_option maxHeartbeats 4000000 in
theorem newB_ok (l : List SD) (A : Option Addr) (c : Nat) (mb : Nat) (cm : Nat) (n : Int) (F : Nat) (cap : Array Value) (w : World) (hl : l.length ≤ 1000) (hr : StripRow w A l) (h0 : (countP l).2 = 0) (hm : w.cell? ⟨mb, 0, none⟩ = some (.int .i64 n)) (hn : 0 ≤ n) (hn1 : n ≤ 100) :
    Calls Try.prog 12 #[.slice A l.length c, .slice (some ⟨mb, 0, none⟩) 1 cm, .func (.func F) #[] cap, .slice none 0 0] w fun e w' => ∃ b g h c1 X, e = .returned (.tuple #[.pointer (some ⟨b, 0, none⟩), .int .i64 0]) ∧ Ben w w' b g h c1 (.func (.func F) #[] cap) l (tb0 n) bs0 0 (.slice none 0 0) (.slice none 0 0) (.slice none 0 0) X := by
  have hneq : ∀ W : World, (binOp .eql 46 (.func (.func F) #[] cap) .nilFunc).run Try.prog W = .ok (.bool false) W := fun _ => by kernel_rfl
  have HC := Lib.hid (newM_any l A c w hl hr)
  have H0 := Lib.hid h0
  clear hl hr h0
  go_enter Try.func12, Try.ntmps12
  go_wp2_with fail
  refine HC.out.mono ?_
  intro e w1 h1
  unfold NewM at h1
  rw [if_neg (by rw [H0.out]; simp)] at h1
  obtain ⟨h, X, rfl, hbk, hu⟩ := h1
  have HU := Lib.hid hu
  have HB := Lib.hid hbk
  have hm1 := (hu.cell (cell_lt hm)).trans hm
  have hlm := cell_lt hm1
  clear hu HC hbk hm
  go_wp2_with fail
  refine (cloneI_nil w1).mono ?_
  rintro e w2 ⟨rfl, rfl⟩
  go_wp2_with fail
  have hblk := heap_alloc_new w2 (.cells #[.pointer (some ⟨h, 0, none⟩), .slice none 0 0, .func (.func F) #[] cap, .slice none 0 0, .int .i64 0, .int .i64 0, .slice none 0 0] 53)
  have hu3 : Up w2 (w2.alloc (.cells #[.pointer (some ⟨h, 0, none⟩), .slice none 0 0, .func (.func F) #[] cap, .slice none 0 0, .int .i64 0, .int .i64 0, .slice none 0 0] 53)) := (Up.refl w2).alloc _
  have hsz : (w2.alloc (.cells #[.pointer (some ⟨h, 0, none⟩), .slice none 0 0, .func (.func F) #[] cap, .slice none 0 0, .int .i64 0, .int .i64 0, .slice none 0 0] 53)).heap.size = w2.heap.size + 1 := by simp
  obtain ⟨W3, hW3⟩ : ∃ x, w2.alloc (.cells #[.pointer (some ⟨h, 0, none⟩), .slice none 0 0, .func (.func F) #[] cap, .slice none 0 0, .int .i64 0, .int .i64 0, .slice none 0 0] 53) = x := ⟨_, rfl⟩
  obtain ⟨b, hb⟩ : ∃ b, w2.heap.size = b := ⟨_, rfl⟩
  rw [hW3] at hblk hu3 hsz ⊢
  rw [hb] at hblk hsz hlm ⊢
  have HBL := Lib.hid hblk
  have HU3 := Lib.hid hu3
  have HSZ := Lib.hid (And.intro hsz hb)
  have hm3 := (hu3.cell (cell_lt hm1)).trans hm1
  clear hW3 hb hblk hu3 hsz hm1 hlm
  go_loopw [41] (fun iv wr => (iv = .int .i64 0 ∧ wr = W3) ∨ (iv = .int .i64 1 ∧ Hid (∃ g c1, Ben w wr b g h c1 (.func (.func F) #[] cap) l (tb0 n) bs0 0 (.slice none 0 0) (.slice none 0 0) (.slice none 0 0) X))) (fun t _ => (1 - intOf t).toNat)
  case atStart => exact .inl ⟨rfl, rfl⟩
  case round =>
    rcases hrel with ⟨rfl, rfl⟩ | ⟨rfl, HN⟩
    · have hb1 : wr.cell? ⟨b, 1, none⟩ = some (.slice none 0 0) := cell_of_row wr b 1 _ _ _ HBL.out
      have hmax : max n 0 = n := by omega
      obtain ⟨i0, hi', hz0, hz1, hz2⟩ := info_parts infoTh
      have HIE := Lib.hid hi'
      have HZ0 := Lib.hid hz0
      have HZ1 := Lib.hid hz1
      have HZ2 := Lib.hid hz2
      have HWS := Lib.hid (show w.heap.size ≤ wr.heap.size from Nat.le_trans HU.out.size HU3.out.size)
      clear hi' hz0 hz1 hz2
      go_wp2_with (at_builtin; refine wpList_push3 (news := [.int .i64 n, .int .i64 0, .slice none 0 0, .slice none 0 0, .int .i64 0, .int .i64 0, .int .i64 0, .int .i64 0, .int .i64 0]) rfl (.tmp 49) (.tmp 53) 51 rfl w.heap.size i0 (.agg #[.int .i64 0, .int .i64 0, .slice none 0 0, .slice none 0 0, .int .i64 0, .int .i64 0, .int .i64 0, .int .i64 0, .int .i64 0]) 9 104 Try.underlying51 HIE.out HZ0.out HZ1.out HZ2.out rfl (by decide) _ 0 [] rfl (own_nil _ _ _ _) rfl rfl (by simp [Value.oneCell']) (by decide) (by decide) HWS.out ?_; intro g c1 w5 hown5 hg5 hor5 hlt5 hbel5; have HB6 := Lib.hid (new_ben HU.out HB.out HU3.out HSZ.out.1 HSZ.out.2 HBL.out hown5 hg5 (hor5.resolve_left (fun h => by cases h))); have c15 := HB6.out.1; have f15 := HB6.out.2.1; clear hown5 hg5 hor5 hlt5 hbel5)
      clear hb1 c15 f15
      go_roundw
      case rel => exact .inr ⟨by first | rfl | go_num, Lib.hid ⟨g, c1, HB6.out.2.2⟩⟩
      case measure => simp [intOf]
    · obtain ⟨g, c1, hN⟩ := HN.out
      have HN2 := Lib.hid hN
      clear HN hN
      go_wp2_with fail
      go_ret2
      exact ⟨b, g, h, c1, X, rfl, HN2.out⟩

end Go.Proofs.Ytedkgamecdmjdaa
