/-
  The closure of Safe.
-/
import Derived.Test.YtpefcbmmbpcalaaLooA
import Derived.Deep.DeepCutAuto
set_option linter.unusedVariables false
set_option linter.unusedSimpArgs false
namespace Go.Proofs.Ytpefcbmmbpcalaa
open Go.RowKit

theorem heap_three (w : World) (a b c : Obj) : (((w.alloc a).alloc b).alloc c).heap[w.heap.size]? = some a ∧ (((w.alloc a).alloc b).alloc c).heap[w.heap.size + 1]? = some b ∧ (((w.alloc a).alloc b).alloc c).heap[w.heap.size + 1 + 1]? = some c := by
  have h2 : ((w.alloc a).alloc b).heap.size = w.heap.size + 1 + 1 := by simp
  obtain ⟨ha, hb⟩ := heap_two w a b
  have hc := heap_alloc_new ((w.alloc a).alloc b) c
  rw [h2] at hc
  exact ⟨(heap_alloc_old _ _ (Array.getElem?_eq_some_iff.1 ha).1).trans ha, (heap_alloc_old _ _ (Array.getElem?_eq_some_iff.1 hb).1).trans hb, hc⟩
def headOr (pre : List Int) (first : Int) : Int := match pre with | [] => first | x :: _ => x

theorem askedS {pre : List Int} (h : Asked askS pre) : pre = [] ∨ ∃ y, pre = [y] := by
  rcases h with h | ⟨p, y, h1, h2⟩
  · exact .inl h
  · right
    unfold askS at h2
    have := of_decide_eq_true h2
    have hp : p = [] := List.eq_nil_of_length_eq_zero (by omega)
    exact ⟨y, by rw [h1, hp]; rfl⟩
theorem row_KX {X : Nat → Prop} {B : Nat} {w0 w w' : World} {A : Option Addr} {ws : List OpD} (h : OpRow w0 A ws) (u : Up w0 w) (k : KX X w w') (hB : ∀ q, X q → w0.heap.size ≤ q) : OpRow w' A ws := fun j hj => by
  obtain ⟨b, off, e, ho⟩ := h j hj
  have hb : b < w0.heap.size := cell_lt ho.1
  have hkk : w'.heap[b]? = w.heap[b]? := k.block b (Nat.lt_of_lt_of_le hb u.size) (fun hx => by have := hB b hx; omega)
  have hc : ∀ o' v', w0.cell? ⟨b, o', none⟩ = some v' → w'.cell? ⟨b, o', none⟩ = some v' := fun o' v' hh => (World.cell?_of_block (a := ⟨b, o', none⟩) (hkk.trans (u.block b hb))).trans hh
  exact ⟨b, off, e, hc _ _ ho.1, hc _ _ ho.2.1, hc _ _ ho.2.2.1, hc _ _ ho.2.2.2.1, hc _ _ ho.2.2.2.2⟩
/-- seen, with Safe's closure. -/
theorem seen_saf (ws : List OpD) (A : Option Addr) (c p q : Nat) (first : Int) (r : OpD) (w0 w : World) (hL : ws.length ≤ 1000000) (hr : OpRow w0 A ws) (hu : Up w0 w) (hpq : p ≠ q) (hp0 : w0.heap.size ≤ p) (hq0 : w0.heap.size ≤ q) (hp : w.heap[p]? = some (.cells #[.int .i64 0] 3 (0, 0))) (hq : w.heap[q]? = some (.cells #[.int .i64 first] 3 (0, 0))) :
    Calls Try.prog 26 #[.slice A ws.length c, .int .i64 first, oagg r, .func (.func 29) #[] #[.pointer (some ⟨p, 0, none⟩), .pointer (some ⟨q, 0, none⟩)]] w fun e w' => (∃ v, e = .returned v) ∧
      w'.heap[p]? = some (.cells #[.int .i64 ((seenL ws first r).take 2).length] 3 (0, 0)) ∧ w'.heap[q]? = some (.cells #[.int .i64 (lastA ws first r)] 3 (0, 0)) ∧ KX (fun k => k = p ∨ k = q) w w' := by
  have h := seen_any 29 [.pointer (some ⟨p, 0, none⟩), .pointer (some ⟨q, 0, none⟩)] (fun k => k = p ∨ k = q)
    (fun pre V => V.heap[p]? = some (.cells #[.int .i64 pre.length] 3 (0, 0)) ∧ V.heap[q]? = some (.cells #[.int .i64 (headOr pre first)] 3 (0, 0))) askS ws A c first r w hL cf29
    (fun k hk => by
      rcases hk with rfl | rfl
      · exact (Array.getElem?_eq_some_iff.1 hp).1
      · exact (Array.getElem?_eq_some_iff.1 hq).1) (fun pre V V' hm u => ⟨box_up hm.1 u, box_up hm.2 u⟩)
    (fun V hk => row_KX (B := 0) hr hu hk (fun k hx => by rcases hx with rfl | rfl <;> assumption))
    ⟨hp, hq⟩
    (fun pre x V ha hm => by
      rcases askedS ha with rfl | ⟨y, rfl⟩
      · exact (saf11_any x 0 first p q V (.inl rfl) hm.1 hm.2 hpq).mono fun e V' ⟨h1, h2, h3, h4⟩ => ⟨h1, ⟨h2, h3⟩, h4⟩
      · exact (saf11_any x 1 y p q V (.inr rfl) hm.1 hm.2 hpq).mono fun e V' ⟨h1, h2, h3, h4⟩ => ⟨h1, ⟨h2, h3⟩, h4⟩)
  refine h.mono fun e w' ⟨h1, ⟨h2, h3⟩, h4⟩ => ⟨h1, ?_, ?_, h4⟩
  · rw [handedS] at h2; exact h2
  · rw [handedS] at h3; exact h3

set_option maxRecDepth 10000 in
set_option maxHeartbeats 1000000 in
theorem saf1_any (ws : List OpD) (A : Option Addr) (c pf pt : Nat) (first top : Int) (r : OpD) (w : World) (hL : ws.length ≤ 1000000) (hr : OpRow w A ws) (hf : w.cell? ⟨pf, 0, none⟩ = some (.int .i64 first)) (ht : w.cell? ⟨pt, 0, none⟩ = some (.int .i64 top)) :
    Calls Try.prog 28 #[.slice A ws.length c, oagg r, .pointer (some ⟨pf, 0, none⟩), .pointer (some ⟨pt, 0, none⟩)] w fun e w' => e = .returned (.bool (safeB ws first top r)) ∧ Up w w' := by
  have HMF := Lib.hid (show ∀ (fn : Fn) (first cap : Array Value) (w : World), (Instr.makeFunc fn first cap).run Try.prog w = .ok (.func fn first cap) w from fun _ _ _ _ => rfl)
  obtain ⟨RF, RT, RW, RV, RH⟩ := r
  unfold oagg
  dsimp only
  have HB1 := Lib.hid (heap_alloc_new w (.cells #[.int .i64 RF, .int .i64 RT, .bool RW, .int .i64 RV, .int .i64 RH] 24))
  have HU1 := Lib.hid ((Up.refl w).alloc (.cells #[.int .i64 RF, .int .i64 RT, .bool RW, .int .i64 RV, .int .i64 RH] 24))
  have HSZ1 : Hid ((w.alloc (.cells #[.int .i64 RF, .int .i64 RT, .bool RW, .int .i64 RV, .int .i64 RH] 24)).heap.size = w.heap.size + 1) := Lib.hid (by simp)
  have HF := Lib.hid hf
  have HT := Lib.hid ht
  have HR := Lib.hid hr
  have HL := Lib.hid hL
  clear hf ht hr hL
  go_enter Try.func28, Try.ntmps28
  go_upto_region 1 with fail
  generalize hW1 : w.alloc (.cells #[.int .i64 RF, .int .i64 RT, .bool RW, .int .i64 RV, .int .i64 RH] 24) = W1 at *
  clear hW1
  have hf1 := (HU1.out.cell (cell_lt HF.out)).trans HF.out
  have hfl := cell_lt hf1
  go_cut [7, 8] (fun s7 s8 wx => ∃ p q : Nat, s7 = .pointer (some ⟨p, 0, none⟩) ∧ s8 = .pointer (some ⟨q, 0, none⟩) ∧ Hid (p ≠ q ∧ W1.heap.size ≤ p ∧ W1.heap.size ≤ q ∧ wx.heap[p]? = some (.cells #[.int .i64 0] 3 (0, 0)) ∧ wx.heap[q]? = some (.cells #[.int .i64 first] 3 (0, 0)) ∧ Up W1 wx))
  case first =>
    have hA := heap_two W1 (.cells #[.int .i64 0] 3) (.cells #[.int .i64 first] 3)
    have hB := heap_two W1 (.cells #[.int .i64 first] 3) (.cells #[.int .i64 0] 3)
    have HA := Lib.hid hA
    have HB := Lib.hid hB
    have HUA := Lib.hid ((((Up.refl W1).alloc (.cells #[.int .i64 0] 3)).alloc (.cells #[.int .i64 first] 3)).drew)
    have HUB := Lib.hid ((((Up.refl W1).alloc (.cells #[.int .i64 first] 3)).alloc (.cells #[.int .i64 0] 3)).drew)
    clear hA hB
    go_region_law (fail)
    all_goals
      go_wp2_with fail
      go_meet
      first
        | exact ⟨W1.heap.size, W1.heap.size + 1, rfl, rfl, Lib.hid ⟨by omega, by omega, by omega, HA.out.1, HA.out.2, HUA.out⟩⟩
        | exact ⟨W1.heap.size + 1, W1.heap.size, rfl, rfl, Lib.hid ⟨by omega, by omega, by omega, HB.out.2, HB.out.1, HUB.out⟩⟩
  case rest =>
    obtain ⟨p, q, rfl, rfl, HH⟩ := hcut
    have HUC := Lib.hid HH.out.2.2.2.2.2
    have HVC := Lib.hid (HU1.out.trans HUC.out)
    have HS := Lib.hid (seen_saf ws A c p q first ⟨RF, RT, RW, RV, RH⟩ W1 wc HL.out (HR.out.up HU1.out) HUC.out HH.out.1 HH.out.2.1 HH.out.2.2.1 HH.out.2.2.2.1 HH.out.2.2.2.2.1)
    unfold oagg at HS
    dsimp only at HS
    have HLE : Hid (1 ≤ ((seenL ws first ⟨RF, RT, RW, RV, RH⟩).take 2).length ∧ (((seenL ws first ⟨RF, RT, RW, RV, RH⟩).take 2).length = 1 ↔ (seenL ws first ⟨RF, RT, RW, RV, RH⟩).length = 1)) := Lib.hid (by
      have hpos : 1 ≤ (seenL ws first ⟨RF, RT, RW, RV, RH⟩).length := by unfold seenL; simp
      rw [List.length_take]
      omega)
    have HSB : Hid (safeB ws first top ⟨RF, RT, RW, RV, RH⟩ = if (seenL ws first ⟨RF, RT, RW, RV, RH⟩).length = 1 then RV == lastA ws first ⟨RF, RT, RW, RV, RH⟩ else decide (0 ≤ RV) && decide (RV ≤ top)) := Lib.hid rfl
    generalize lastA ws first ⟨RF, RT, RW, RV, RH⟩ = la at *
    generalize ((seenL ws first ⟨RF, RT, RW, RV, RH⟩).take 2).length = mn at *
    generalize (seenL ws first ⟨RF, RT, RW, RV, RH⟩).length = ln at *
    have HBW := Lib.hid (box_up HB1.out HUC.out)
    obtain ⟨x0, x1, x2, x3, x4⟩ := box_cells HBW.out
    have hfc := (HUC.out.cell hfl).trans hf1
    clear hf1 hfl
    go_wp2_with fail
    refine HS.out.mono ?_
    rintro e w2 ⟨⟨v, rfl⟩, hp2, hq2, hk2⟩
    have hcp := cell_of_row _ _ 0 _ _ _ hp2
    have hcq := cell_of_row _ _ 0 _ _ _ hq2
    simp only [List.getElem?_toArray, List.getElem?_cons_zero] at hcp hcq
    have HBX := Lib.hid (hk2.box HBW.out (fun hx => by have h1 := HH.out.2.1; have h2 := HH.out.2.2.1; have := HSZ1.out; rcases hx with h | h <;> omega))
    have HU2 : Hid (Up w w2) := Lib.hid (Below.trans HVC.out (hk2.below HVC.out.size (fun k hx => by have h1 := HH.out.2.1; have h2 := HH.out.2.2.1; have := HSZ1.out; rcases hx with h | h <;> omega)))
    have htc := (HU2.out.cell (cell_lt HT.out)).trans HT.out
    clear x0 x1 x2 x3 x4 hfc hp2 hq2 hk2
    obtain ⟨x0, x1, x2, x3, x4⟩ := box_cells HBX.out
    by_cases hm1 : mn = 1
    · have hmb : ((mn : Int) == 1) = true := by rw [hm1]; rfl
      have HN : Hid (safeB ws first top ⟨RF, RT, RW, RV, RH⟩ = (RV == la)) := Lib.hid (by rw [HSB.out, if_pos (HLE.out.2.1 hm1)])
      clear hm1
      go_wp2_with fail
      go_ret
      exact ⟨by rw [HN.out]; rfl, HU2.out⟩
    · have hmb : ((mn : Int) == 1) = false := by rw [beq_eq_false_iff_ne]; omega
      have HN : Hid (safeB ws first top ⟨RF, RT, RW, RV, RH⟩ = (decide (0 ≤ RV) && decide (RV ≤ top))) := Lib.hid (by rw [HSB.out, if_neg (fun h => hm1 (HLE.out.2.2 h))])
      clear hm1
      by_cases hv0 : 0 ≤ RV
      · have HN2 : Hid (safeB ws first top ⟨RF, RT, RW, RV, RH⟩ = decide (RV ≤ top)) := Lib.hid (by rw [HN.out, decide_eq_true hv0]; rfl)
        go_wp2_with fail
        go_ret
        exact ⟨by rw [HN2.out]; rfl, HU2.out⟩
      · have HN2 : Hid (safeB ws first top ⟨RF, RT, RW, RV, RH⟩ = false) := Lib.hid (by rw [HN.out, decide_eq_false hv0]; rfl)
        have hv0' : RV < 0 := by omega
        clear hv0
        go_wp2_with fail
        go_ret
        exact ⟨by rw [HN2.out]; rfl, HU2.out⟩

end Go.Proofs.Ytpefcbmmbpcalaa
