/-
  The chapter's example.
-/
import Derived.Test.YtpapcheliohacaaBankW
set_option linter.unusedVariables false
set_option linter.unusedSimpArgs false
namespace Go.Proofs.Ytpapcheliohacaa
open Go.RowKit

def ax1 : BS := (bs0.begin 3 6 (mkP exL) 0 2 2 5).2
def ax2 : BS := (ax1.begin 3 6 (mkP exL) 0 1 0 0).2
def ax3 : BS := (ax2.endA (mkP exL) 0 0).2.2
def ax4 : BS := (ax3.begin 3 6 (mkP exL) 0 1 3 0).2
theorem ax4_used {L : List Int} (h : UsedL ax4 L) : L.length = 1 := by
  obtain ⟨h1, h2⟩ := h
  have hx : ∀ x, (getU ax4.u x).isSome = true ↔ x = 2 := fun x => by
    by_cases e : x = 2
    · subst e; exact ⟨fun _ => rfl, fun _ => rfl⟩
    · have : getU ax4.u x = none := by
        show (if (2 : Int) = x then _ else none) = none
        rw [if_neg (fun h => e h.symm)]
      rw [this]
      exact ⟨fun h => (by cases h), fun h => absurd h e⟩
  have hm : ∀ x, x ∈ L ↔ x = 2 := fun x => by
    rw [h2 x, hx x]
    exact ⟨fun h => h.2, fun h => ⟨by rw [h]; exact wf_small (by decide) (by decide), h⟩⟩
  match L, h1, hm with
  | [], _, hm => exact absurd ((hm 2).2 rfl) (by simp)
  | [a], _, _ => rfl
  | a :: b :: r, h1, hm =>
    have ha := (hm a).1 (by simp)
    have hb := (hm b).1 (by simp)
    rw [List.pairwise_cons] at h1
    have := h1.1 b (by simp)
    omega
theorem strip_row (w : World) (l : List SD) (cs : List Value) (t : TypeId) (h : ∀ k, k < l.length → cs[k * 3]? = some (.int .i64 (l.getD k sd0).many) ∧ cs[k * 3 + 1]? = some (.int .i64 (l.getD k sd0).kind) ∧ cs[k * 3 + 2]? = some (.int .i64 (l.getD k sd0).top)) :
    StripRow (w.alloc (.cells cs.toArray t)) (some ⟨w.heap.size, 0, none⟩) l := fun k hk => by
  obtain ⟨h0, h1, h2⟩ := h k hk
  have c : ∀ j, (w.alloc (.cells cs.toArray t)).cell? ⟨w.heap.size, j, none⟩ = cs[j]? := fun j => by rw [World.cell?_alloc_at _ _ _ _ rfl]; simp
  exact ⟨w.heap.size, 0, rfl, by rw [c, Nat.zero_add]; exact h0, by rw [c, Nat.zero_add]; exact h1, by rw [c, Nat.zero_add]; exact h2⟩

set_option maxRecDepth 10000 in
set_option maxHeartbeats 1000000 in
theorem alive09_any (w : World) : Calls Try.prog 18 #[] w fun e w' => e = .returned (.bool true) ∧ Up w w' := by
  have hr0 := strip_row w exL [.int .i64 2, .int .i64 1, .int .i64 1, .int .i64 1, .int .i64 3, .int .i64 9] 63 (fun k hk => by
    match k, hk with
    | 0, _ => exact ⟨rfl, rfl, rfl⟩
    | 1, _ => exact ⟨rfl, rfl, rfl⟩)
  have hu0 : Up w (w.alloc (.cells #[.int .i64 2, .int .i64 1, .int .i64 1, .int .i64 1, .int .i64 3, .int .i64 9] 63)) := (Up.refl w).alloc _
  have HNW := Lib.hid (show Calls Try.prog 19 #[.slice (some ⟨w.heap.size, 0, none⟩) 2 2] (w.alloc (.cells #[.int .i64 2, .int .i64 1, .int .i64 1, .int .i64 1, .int .i64 3, .int .i64 9] 63)) fun e w' => ∃ h, e = .returned (.tuple #[.pointer (some ⟨h, 0, none⟩), .int .i64 0]) ∧ HeldB w w' h exL bs0 0 (fun _ => False) ∧ StripRow w' (some ⟨w.heap.size, 0, none⟩) exL from
    (newM_any exL _ 2 _ (by decide) hr0).mono fun e w' hp => by
      unfold NewM at hp
      rw [if_neg (by decide)] at hp
      obtain ⟨h, X, he, hb, hu⟩ := hp
      exact ⟨h, he, ⟨hu0.trans hu, _, X, hu0.size, hb, fun _ h => h.elim⟩, hr0.up hu⟩)
  have HAT := Lib.hid (fun W (hr : StripRow W (some ⟨w.heap.size, 0, none⟩) exL) => at_ex _ 2 W hr)
  have HP1 := Lib.hid (fun h z W (L : HeldB w W h exL bs0 0 (fun k => k = z)) => show Calls Try.prog 22 #[.pointer (some ⟨h, 0, none⟩), .int .i64 0, .agg #[.int .i64 2, .int .i64 2, .int .i64 5]] W fun e w' => e = .returned (.int .i64 0) ∧ HeldB w w' h exL ax1 9 (fun k => k = z) ∧ ∀ k, k = z → w'.heap[k]? = W.heap[k]? from begin_heldB h 0 exL bs0 0 2 2 5 w W _ ⟨by decide, by decide, by decide⟩ (by decide) (by decide) L (by decide))
  have HP2 := Lib.hid (fun h z W (L : HeldB w W h exL ax1 9 (fun k => k = z)) => show Calls Try.prog 24 #[.pointer (some ⟨h, 0, none⟩), .int .i64 0] W fun e w' => e = .returned (.tuple #[.int .i64 2, .bool true]) ∧ HeldB w w' h exL ax1 9 (fun k => k = z) ∧ ∀ k, k = z → w'.heap[k]? = W.heap[k]? from
    (busy_heldB h 9 exL ax1 0 w W _ (by decide) (by decide) L).mono fun e w' ⟨he, hu⟩ => ⟨he, L.up hu, fun k hk => hu.block k (by obtain ⟨_, _, _, _, _, h4⟩ := L; exact (h4 k hk).1)⟩)
  have HP3 := Lib.hid (fun h z W (L : HeldB w W h exL ax1 9 (fun k => k = z)) => show Calls Try.prog 22 #[.pointer (some ⟨h, 0, none⟩), .int .i64 0, .agg #[.int .i64 1, .int .i64 0, .int .i64 0]] W fun e w' => e = .returned (.int .i64 12) ∧ HeldB w w' h exL ax2 18 (fun k => k = z) ∧ ∀ k, k = z → w'.heap[k]? = W.heap[k]? from begin_heldB h 9 exL ax1 0 1 0 0 w W _ ⟨by decide, by decide, by decide⟩ (by decide) (by decide) L (by decide))
  have HP4 := Lib.hid (fun h z W (L : HeldB w W h exL ax2 18 (fun k => k = z)) => show Calls Try.prog 20 #[.pointer (some ⟨h, 0, none⟩), .int .i64 0, .int .i64 0] W fun e w' => e = .returned (.tuple #[.int .i64 0, .int .i64 0]) ∧ HeldB w w' h exL ax3 18 (fun k => k = z) ∧ ∀ k, k = z → w'.heap[k]? = W.heap[k]? from end_heldB h 18 exL ax2 0 0 w W _ (mkP exL) (by decide) (by decide) L (by decide))
  have HP5 := Lib.hid (fun h z W (L : HeldB w W h exL ax3 18 (fun k => k = z)) => show Calls Try.prog 22 #[.pointer (some ⟨h, 0, none⟩), .int .i64 0, .agg #[.int .i64 1, .int .i64 3, .int .i64 0]] W fun e w' => e = .returned (.int .i64 6) ∧ HeldB w w' h exL ax4 27 (fun k => k = z) ∧ ∀ k, k = z → w'.heap[k]? = W.heap[k]? from begin_heldB h 18 exL ax3 0 1 3 0 w W _ ⟨by decide, by decide, by decide⟩ (by decide) (by decide) L (by decide))
  have HPV := Lib.hid (fun h z W (L : HeldB w W h exL ax4 27 (fun k => k = z)) => show Calls Try.prog 26 #[.pointer (some ⟨h, 0, none⟩), .int .i64 2] W fun e w' => e = .returned (.int .i64 5) ∧ w' = W from value_heldB h 27 exL ax4 2 w W _ (wf_small (by decide) (by decide)) L)
  have HPL := Lib.hid (fun h z W (L : HeldB w W h exL ax4 27 (fun k => k = z)) => show Calls Try.prog 41 #[.pointer (some ⟨h, 0, none⟩)] W fun e w' => e = .returned (.int .i64 3) ∧ w' = W from len_heldB h 27 exL ax4 w W _ L)
  have HPU := Lib.hid (fun h z W (L : HeldB w W h exL ax4 27 (fun k => k = z)) => show Calls Try.prog 29 #[.pointer (some ⟨h, 0, none⟩)] W fun e w' => (∃ A c, e = .returned (.slice A 1 c)) ∧ Up w w' from (used_heldB h 27 exL ax4 w W _ (by decide) L).mono fun e w' ⟨v, Lx, he, hu, hr, hup⟩ => by
    obtain ⟨A, c, hv, _⟩ := own_row (f := IVal Lx) hr (fun k hk => iVal_map hk)
    exact ⟨⟨A, c, by rw [he, hv, ax4_used hu]⟩, L.1.trans hup⟩)
  have HN2 := Lib.hid (fun W => show Calls Try.prog 19 #[.slice (some ⟨W.heap.size, 0, none⟩) 1 1] (W.alloc (.cells #[.int .i64 1, .int .i64 0, .int .i64 0] 63)) fun e w' => e = .returned (.tuple #[.pointer none, .int .i64 1]) ∧ Up W w' from
    (newM_any [⟨1, 0, 0⟩] _ 1 _ (by decide) (strip_row W [⟨1, 0, 0⟩] [.int .i64 1, .int .i64 0, .int .i64 0] 63 (fun k hk => by
      match k, hk with
      | 0, _ => exact ⟨rfl, rfl, rfl⟩))).mono fun e w' hp => by
      unfold NewM at hp
      rw [if_pos (by decide)] at hp
      exact ⟨hp.1, ((Up.refl W).alloc _).trans hp.2⟩)
  have HC2 := Lib.hid (fun W => show Calls Try.prog 40 #[.slice (some ⟨W.heap.size, 0, none⟩) 1 1] (W.alloc (.cells #[.int .i64 40000, .int .i64 1, .int .i64 0] 63)) fun e w' => e = .returned (.tuple #[.int .i64 0, .int .i64 5]) ∧ Up W w' from
    (count_any [⟨40000, 1, 0⟩] _ 1 _ (by decide) (strip_row W [⟨40000, 1, 0⟩] [.int .i64 40000, .int .i64 1, .int .i64 0] 63 (fun k hk => by
      match k, hk with
      | 0, _ => exact ⟨rfl, rfl, rfl⟩))).mono fun e w' hp => ⟨hp.1, ((Up.refl W).alloc _).trans hp.2⟩)
  clear hr0 hu0
  go_enter Try.func18, Try.ntmps18
  go_wp2_with fail
  refine HNW.out.mono ?_
  rintro e w0 ⟨h, rfl, L, hr⟩
  have HL0 := Lib.hid L
  have HR := Lib.hid hr
  clear L hr HNW
  go_wp2_with fail
  refine (HAT.out _ HR.out).mono ?_
  rintro e wb ⟨rfl, hu⟩
  have HL := Lib.hid (((HL0.out.up hu).grow ((Up.refl wb).alloc (.cells #[.int .i64 1, .int .i64 3, .int .i64 9] 63))).less (Z' := fun k => k = wb.heap.size) (fun k hk => .inr ⟨by omega, by simp; omega⟩))
  have HB := Lib.hid (heap_alloc_new wb (.cells #[.int .i64 1, .int .i64 3, .int .i64 9] 63))
  generalize hz : wb.heap.size = z at *
  clear HL0 HR HAT hu
  go_wp2_with fail
  refine (HP1.out _ _ _ HL.out).mono ?_
  rintro e w1 ⟨rfl, L, hk⟩
  replace HL := Lib.hid L
  replace HB := Lib.hid ((hk z rfl).trans HB.out)
  clear L hk HP1
  go_wp2_with fail
  refine (HP2.out _ _ _ HL.out).mono ?_
  rintro e w2 ⟨rfl, L, hk⟩
  replace HL := Lib.hid L
  replace HB := Lib.hid ((hk z rfl).trans HB.out)
  clear L hk HP2
  go_wp2_with fail
  refine (HP3.out _ _ _ HL.out).mono ?_
  rintro e w3 ⟨rfl, L, hk⟩
  replace HL := Lib.hid L
  replace HB := Lib.hid ((hk z rfl).trans HB.out)
  clear L hk HP3
  go_wp2_with fail
  refine (HP4.out _ _ _ HL.out).mono ?_
  rintro e w4 ⟨rfl, L, hk⟩
  replace HL := Lib.hid L
  replace HB := Lib.hid ((hk z rfl).trans HB.out)
  clear L hk HP4
  go_wp2_with fail
  refine (HP5.out _ _ _ HL.out).mono ?_
  rintro e w5 ⟨rfl, L, hk⟩
  replace HL := Lib.hid L
  replace HB := Lib.hid ((hk z rfl).trans HB.out)
  clear L hk HP5
  go_wp2_with fail
  refine (HN2.out _).mono ?_
  rintro e w6 ⟨rfl, hu⟩
  replace HB := Lib.hid ((hu.block z (Array.getElem?_eq_some_iff.1 HB.out).1).trans HB.out)
  replace HL := Lib.hid (HL.out.up hu)
  clear hu
  go_wp2_with fail
  refine (HC2.out _).mono ?_
  rintro e w7 ⟨rfl, hu⟩
  replace HB := Lib.hid ((hu.block z (Array.getElem?_eq_some_iff.1 HB.out).1).trans HB.out)
  replace HL := Lib.hid (HL.out.up hu)
  clear hu
  have b1 := cell_of_row _ _ 1 _ _ _ HB.out
  simp only [List.getElem?_toArray, List.getElem?_cons_zero, List.getElem?_cons_succ] at b1
  go_wp2_with fail
  refine (HPV.out _ _ _ HL.out).mono ?_
  rintro e w8 ⟨rfl, rfl⟩
  go_wp2_with fail
  refine (HPL.out _ _ _ HL.out).mono ?_
  rintro e w9 ⟨rfl, rfl⟩
  go_wp2_with fail
  refine (HPU.out _ _ _ HL.out).mono ?_
  rintro e wa ⟨⟨Aa, ca, rfl⟩, hu⟩
  have HUF := Lib.hid hu
  clear hu
  go_wp2_with fail
  go_ret
  exact ⟨rfl, HUF.out⟩

end Go.Proofs.Ytpapcheliohacaa
