/-
  The document's Fit at one operation of one thread.
-/
import Derived.Test.YtedkgamecdmjdaaMarP
set_option linter.unusedVariables false
set_option linter.unusedSimpArgs false
namespace Go.Proofs.Ytedkgamecdmjdaa
open Go.RowKit

def actC (l : List Act3) : List Value := l.flatMap fun a => [.int .u8 a.1, .int .i64 a.2.1, .int .i64 a.2.2]
theorem actC_app (l m : List Act3) : actC (l ++ m) = actC l ++ actC m := by unfold actC; rw [List.flatMap_append]
theorem actC_get : ∀ (l : List Act3) (k : Nat), k < l.length → (actC l)[k * 3]? = some (.int .u8 (l.getD k (0, 0, 0)).1) ∧ (actC l)[k * 3 + 1]? = some (.int .i64 (l.getD k (0, 0, 0)).2.1) ∧ (actC l)[k * 3 + 2]? = some (.int .i64 (l.getD k (0, 0, 0)).2.2)
  | a :: l, 0, _ => ⟨rfl, rfl, rfl⟩
  | a :: l, k + 1, h => by
    have ih := actC_get l k (by simpa using h)
    have e : ∀ j, (actC (a :: l))[j + 3]? = (actC l)[j]? := fun j => rfl
    have e1 : (k + 1) * 3 = k * 3 + 3 := by omega
    have e2 : (k + 1) * 3 + 1 = (k * 3 + 1) + 3 := by omega
    have e3 : (k + 1) * 3 + 2 = (k * 3 + 2) + 3 := by omega
    rw [e1, e, show k * 3 + 3 + 1 = (k * 3 + 1) + 3 by omega, e, show k * 3 + 3 + 2 = (k * 3 + 2) + 3 by omega, e]
    simpa using ih
theorem act_own {w : World} {B : Nat} {A : Option Addr} {c : Nat} {l : List Act3} (h : w.ownsRow B 36 3 (.slice A l.length c) l.length (actC l)) : ActRow w A l := fun k hk => by
  rcases h.2 with ⟨_, h0⟩ | ⟨g, cap, cur, h1, _, h2, _, _, _, h3⟩
  · omega
  · simp only [Value.slice.injEq] at h1
    obtain ⟨q0, q1, q2⟩ := actC_get l k hk
    have hc : ∀ j v, (actC l)[j]? = some v → w.cell? ⟨g, 0 + j, none⟩ = some v := fun j v hv => by
      rw [Nat.zero_add, cell_of_row w g j _ _ _ h2]
      rw [← h3, List.getElem?_take] at hv
      split at hv
      · simpa using hv
      · cases hv
    exact ⟨g, 0, h1.1, hc _ _ q0, by have := hc _ _ q1; rwa [← Nat.add_assoc] at this, by have := hc _ _ q2; rwa [← Nat.add_assoc] at this⟩
theorem infoAct10 : (Try.prog.info? 36).map (fun i => (i.zero, i.size, i.bytes)) = some (some (.agg #[.int .u8 0, .int .i64 0, .int .i64 0]), 3, 24) := by kernel_rfl
theorem infoSA : (Try.prog.info? 31).map (fun i => (i.zero, i.size, i.bytes)) = some (some (.slice none 0 0), 1, 24) := by kernel_rfl
theorem infoSSA : (Try.prog.info? 32).map (fun i => (i.zero, i.size, i.bytes)) = some (some (.slice none 0 0), 1, 24) := by kernel_rfl
/-- What Fit leaves, as far as it is read. -/
def FitO (w wr : World) (l : List Act3) (v : Value) : Prop := Up w wr ∧ ∃ o co m cm A c, v = .slice (some ⟨o, 0, none⟩) 1 co ∧ wr.cell? ⟨o, 0, none⟩ = some (.slice (some ⟨m, 0, none⟩) 1 cm) ∧ wr.cell? ⟨m, 0, none⟩ = some (.slice A l.length c) ∧ ActRow wr A (l.map fitA) ∧ (A = none → c = 0)
/-- One operation's acts, fitted. -/
def FitP (w wr : World) (l : List Act3) (v : Value) : Prop := Up w wr ∧ ∃ m cm A c, v = .slice (some ⟨m, 0, none⟩) 1 cm ∧ wr.cell? ⟨m, 0, none⟩ = some (.slice A l.length c) ∧ ActRow wr A (l.map fitA) ∧ (A = none → c = 0)
/-- A part of the acts, fitted. -/
def FitA (w wr : World) (l : List Act3) (j : Nat) (v : Value) : Prop := Up w wr ∧ wr.ownsRow w.heap.size 36 3 v j (actC ((l.map fitA).take j))
theorem take_fit {l : List Act3} {j : Nat} (h : j < l.length) : (l.map fitA).take (j + 1) = (l.map fitA).take j ++ [fitA (l.getD j (0, 0, 0))] := by
  rw [List.take_add_one]
  congr 1
  rw [List.getElem?_map, List.getElem?_eq_getElem h, List.getD_eq_getElem?_getD, List.getElem?_eq_getElem h]
  rfl

theorem fitP_mk {w wr w5 : World} {l : List Act3} {j g5 d5 c3 : Nat} {A2 : Option Addr} {e : TypeId} {B : Nat} (hn : l.length = j) (hu : Up w wr) (hown : wr.ownsRow w.heap.size 36 3 (.slice A2 j c3) j (actC ((l.map fitA).take j)))
    (ho : w5.ownsRow B e 1 (.slice (some ⟨g5, 0, none⟩) 1 d5) 1 [.slice A2 j c3]) (hg : wr.grownBy w5 none) : FitP w w5 l (.slice (some ⟨g5, 0, none⟩) 1 d5) := by
  have hU5 : Up wr w5 := grownBy_below hg (Nat.le_refl _) (fun k e => by cases e)
  have ht : (l.map fitA).take j = l.map fitA := List.take_of_length_le (by simp; omega)
  have hlm : (l.map fitA).length = j := by simp [hn]
  rw [ht] at hown
  refine ⟨hu.trans hU5, g5, d5, A2, c3, rfl, ?_, ?_, own_nil0 hown⟩
  · rw [hn]
    exact (cs_own ho (fun _ => .slice A2 j c3) (fun k hk => by match k, hk with | 0, _ => rfl)).cell 0 (by decide)
  · have h2 := own_same hown fun k e => hU5.block k (hown.lt k e).2
    rw [← hlm] at h2
    exact act_own h2
theorem fitO_mk {w wr w5 : World} {l : List Act3} {g5 d5 m' cm c' : Nat} {A' : Option Addr} {e : TypeId} {B : Nat} (hu : Up w wr) (hm : wr.cell? ⟨m', 0, none⟩ = some (.slice A' l.length c')) (hr : ActRow wr A' (l.map fitA)) (hn : A' = none → c' = 0)
    (ho : w5.ownsRow B e 1 (.slice (some ⟨g5, 0, none⟩) 1 d5) 1 [.slice (some ⟨m', 0, none⟩) 1 cm]) (hg : wr.grownBy w5 none) : FitO w w5 l (.slice (some ⟨g5, 0, none⟩) 1 d5) := by
  have hU5 : Up wr w5 := grownBy_below hg (Nat.le_refl _) (fun k e => by cases e)
  exact ⟨hu.trans hU5, g5, d5, m', cm, A', c', rfl, (cs_own ho (fun _ => .slice (some ⟨m', 0, none⟩) 1 cm) (fun k hk => by match k, hk with | 0, _ => rfl)).cell 0 (by decide), (hU5.cell (cell_lt hm)).trans hm, hr.up hU5, hn⟩

set_option maxRecDepth 10000 in
set_option maxHeartbeats 4000000 in
theorem fit_any (l : List Act3) (A : Option Addr) (c o m c1 c2 : Nat) (w : World) (hl : l.length ≤ 100) (hr : ActRow w A l) (ho : w.cell? ⟨o, 0, none⟩ = some (.slice (some ⟨m, 0, none⟩) 1 c2)) (hm : w.cell? ⟨m, 0, none⟩ = some (.slice A l.length c)) (hk : ∀ a ∈ l, 0 ≤ a.1 ∧ a.1 ≤ 255) :
    Calls Try.prog 11 #[.slice (some ⟨o, 0, none⟩) 1 c1, .int .i64 4] w fun e w' => ∃ v, e = .returned v ∧ FitO w w' l v := by
  have HR := Lib.hid hr
  have HK := Lib.hid hk
  have h43 : wrap64 (4 - 1) = 3 := IntWalk.wrap64_in _ (by omega)
  clear hr hk
  go_enter Try.func11, Try.ntmps11
  go_wp2_with fail
  go_loopw [5, 6] (fun ov tv wr => (ov = .slice none 0 0 ∧ tv = .int .i64 0 ∧ Hid (Up w wr)) ∨ (tv = .int .i64 1 ∧ Hid (FitO w wr l ov))) (fun _ t _ => (1 - intOf t).toNat)
  case atStart => exact .inl ⟨rfl, rfl, Lib.hid (Up.refl _)⟩
  case round =>
    rcases hrel with ⟨rfl, rfl, HU⟩ | ⟨rfl, HO⟩
    · have ho1 := (HU.out.cell (cell_lt ho)).trans ho
      have hm1 := (HU.out.cell (cell_lt hm)).trans hm
      go_wp2_with fail
      go_loopw [7, 8] (fun pv kv wr2 => (pv = .slice none 0 0 ∧ kv = .int .i64 0 ∧ Hid (Up w wr2)) ∨ (kv = .int .i64 1 ∧ Hid (FitP w wr2 l pv))) (fun _ t _ => (1 - intOf t).toNat)
      case atStart => exact .inl ⟨rfl, rfl, HU⟩
      case round =>
        rcases hrel with ⟨rfl, rfl, HU2⟩ | ⟨rfl, HP⟩
        · clear ho1 hm1
          have ho1 := (HU2.out.cell (cell_lt ho)).trans ho
          have hm1 := (HU2.out.cell (cell_lt hm)).trans hm
          obtain ⟨n, hn⟩ : ∃ n, l.length = n := ⟨_, rfl⟩
          have HN := Lib.hid hn
          have hln : n ≤ 100 := by omega
          rw [hn] at hm1
          clear hn
          go_wp2_with fail
          go_loopw [9, 10] (fun ov iv wr3 => ∃ j : Nat, j ≤ n ∧ iv = .int .i64 j ∧ Hid (FitA w wr3 l j ov)) (fun _ t _ => n - (intOf t).toNat)
          case atStart => exact ⟨0, by omega, rfl, Lib.hid ⟨HU2.out, own_nil _ _ _ _⟩⟩
          case round =>
            obtain ⟨j, hj, rfl, HA⟩ := hrel
            clear ho1 hm1
            have ho1 := (HA.out.1.cell (cell_lt ho)).trans ho
            have hm1 := (HA.out.1.cell (cell_lt hm)).trans hm
            rw [HN.out] at hm1
            by_cases hlt : j < n
            · obtain ⟨hua, hown⟩ := HA.out
              obtain ⟨b, off, rfl, h1, h2, h3⟩ := HR.out j (by rw [HN.out]; exact hlt)
              have w1 := (hua.cell (cell_lt h1)).trans h1
              have w2 := (hua.cell (cell_lt h2)).trans h2
              have w3 := (hua.cell (cell_lt h3)).trans h3
              obtain ⟨hq0, hq1⟩ := HK.out (l.getD j (0, 0, 0)) (by rw [List.getD_eq_getElem?_getD, List.getElem?_eq_getElem (by rw [HN.out]; exact hlt)]; exact List.getElem_mem _)
              have HT := Lib.hid (take_fit (l := l) (j := j) (by rw [HN.out]; exact hlt))
              obtain ⟨⟨q, x, y⟩, hqxy⟩ : ∃ p, l.getD j (0, 0, 0) = p := ⟨_, rfl⟩
              rw [hqxy] at w1 w2 w3 HT hq0 hq1
              simp only at w1 w2 w3 hq0 hq1
              have hqm : q.tmod 6 = q % 6 := Int.tmod_eq_emod_of_nonneg hq0
              obtain ⟨A2, c3, rfl, hc3, _⟩ := own_form hown
              have HOW := Lib.hid hown
              have HUA := Lib.hid hua
              have HSW := Lib.hid hua.size
              obtain ⟨i0, hi', hz0, hz1, hz2⟩ := info_parts infoAct10
              have HIE := Lib.hid hi'
              have HZ0 := Lib.hid hz0
              have HZ1 := Lib.hid hz1
              have HZ2 := Lib.hid hz2
              have HJ := Lib.hid (show j < n ∧ n ≤ 100 from ⟨hlt, hln⟩)
              clear hi' hz0 hz1 hz2 hua hown HA h1 h2 h3 hqxy
              go_wp2_with fail
              have hbz := heap_alloc_new wr (.cells #[.int .u8 q, .int .i64 x, .int .i64 y] 36)
              have huz : Up wr (wr.alloc (.cells #[.int .u8 q, .int .i64 x, .int .i64 y] 36)) := (Up.refl wr).alloc _
              obtain ⟨Wz, hWz⟩ : ∃ x', wr.alloc (.cells #[.int .u8 q, .int .i64 x, .int .i64 y] 36) = x' := ⟨_, rfl⟩
              obtain ⟨z, hz⟩ : ∃ z, wr.heap.size = z := ⟨_, rfl⟩
              rw [hWz] at hbz huz ⊢
              rw [hz] at hbz ⊢
              have HKP := Lib.hid (fun (W : World) (k : Nat) (hk : k < wr.heap.size) (hW : k ≠ z → W.heap[k]? = Wz.heap[k]?) => show W.heap[k]? = wr.heap[k]? from (hW (by omega)).trans (huz.block k hk))
              have HUZ := Lib.hid (HUA.out.trans huz)
              have HZW := Lib.hid (show w.heap.size ≤ z by rw [← hz]; exact HSW.out)
              have z0 := cell_of_row _ _ 0 _ _ _ hbz
              have z1 := cell_of_row _ _ 1 _ _ _ hbz
              have z2 := cell_of_row _ _ 2 _ _ _ hbz
              simp only [List.getElem?_toArray, List.getElem?_cons_zero, List.getElem?_cons_succ] at z0 z1 z2
              have f1 := frozen_of_row _ _ 1 _ _ hbz
              have f2 := frozen_of_row _ _ 2 _ _ hbz
              clear hWz hz hbz huz w1 w2 w3 ho1 hm1
              refine (wrapR_any x 3 Wz).mono ?_
              rintro e w4 ⟨rfl, rfl⟩
              by_cases h4 : q % 6 = 4
              · rw [h4] at hqm
                go_wp2_with fail
                refine (wrapR_any y 3 _).mono ?_
                rintro e w4 ⟨rfl, rfl⟩
                go_upto_region 17 with fail
                obtain ⟨Wy, hWy⟩ : ∃ x', (Wz.setCell ⟨z, 1, none⟩ (.int .i64 (wrapI x 3))).setCell ⟨z, 2, none⟩ (.int .i64 (wrapI y 3)) = x' := ⟨_, rfl⟩
                have HUY := Lib.hid (show Up w Wy from hWy ▸ ((HUZ.out.setCell (p := ⟨z, 1, none⟩) HZW.out (.int .i64 (wrapI x 3))).setCell (p := ⟨z, 2, none⟩) HZW.out (.int .i64 (wrapI y 3))))
                have HOY := Lib.hid (own_same (w' := Wy) HOW.out fun k e => HKP.out Wy k (HOW.out.lt k e).2 (fun hk => by rw [← hWy]; exact (Below.heap_setCell (Wz.setCell ⟨z, 1, none⟩ (.int .i64 (wrapI x 3))) ⟨z, 2, none⟩ _ k hk).trans (Below.heap_setCell Wz ⟨z, 1, none⟩ _ k hk)))
                have y0 : Wy.cell? ⟨z, 0, none⟩ = some (.int .u8 q) := by rw [← hWy]; exact (World.cell?_setCell_other _ _ _ _ (by simp)).trans ((World.cell?_setCell_other _ _ _ _ (by simp)).trans z0)
                have y1 : Wy.cell? ⟨z, 1, none⟩ = some (.int .i64 (wrapI x 3)) := by rw [← hWy]; exact (World.cell?_setCell_other _ _ _ _ (by simp)).trans (World.cell?_setCell_same _ _ _ z1)
                have y2 : Wy.cell? ⟨z, 2, none⟩ = some (.int .i64 (wrapI y 3)) := by rw [← hWy]; exact World.cell?_setCell_same _ _ _ ((World.cell?_setCell_other _ _ _ _ (by simp)).trans z2)
                have HFT := Lib.hid (show actC [fitA (q, x, y)] = [.int .u8 q, .int .i64 (wrapI x 3), .int .i64 (wrapI y 3)] from by unfold actC fitA; simp only [List.flatMap_cons, List.flatMap_nil, List.append_nil]; rw [if_pos h4])
                rw [hWy]
                clear hWy z0 z1 z2 f1 f2
                go_wp2_with (at_builtin; refine wpList_push3 (news := [.int .u8 q, .int .i64 (wrapI x 3), .int .i64 (wrapI y 3)]) rfl (.tmp 65) (.tmp 67) 31 rfl w.heap.size i0 (.agg #[.int .u8 0, .int .i64 0, .int .i64 0]) 3 24 Try.underlying31 HIE.out HZ0.out HZ1.out HZ2.out rfl (by decide) _ j (actC ((l.map fitA).take j)) rfl HOY.out rfl rfl (by simp [Value.oneCell']) (by decide) (by have := HJ.out; omega) HUY.out.size ?_; intro g5 d5 w5 hown5 hg5 hor5 hlt5 hbel5; have HF5 := Lib.hid (show FitA w w5 l (j + 1) (.slice (some ⟨g5, 0, none⟩) (j + 1) d5) from ⟨Below.trans HUY.out hbel5, by rw [HT.out, actC_app, HFT.out]; exact hown5⟩); clear hown5 hg5 hor5 hlt5 hbel5)
                go_roundw
                case rel => exact ⟨j + 1, by have := HJ.out; omega, by go_num, HF5⟩
                case measure => simp [intOf]; omega
              · have hq4 : ¬ q.tmod 6 = 4 := by rw [hqm]; exact h4
                go_upto_region 17 with fail
                obtain ⟨Wy, hWy⟩ : ∃ x', (Wz.setCell ⟨z, 1, none⟩ (.int .i64 (wrapI x 3))) = x' := ⟨_, rfl⟩
                have HUY := Lib.hid (show Up w Wy from hWy ▸ (HUZ.out.setCell (p := ⟨z, 1, none⟩) HZW.out (.int .i64 (wrapI x 3))))
                have HOY := Lib.hid (own_same (w' := Wy) HOW.out fun k e => HKP.out Wy k (HOW.out.lt k e).2 (fun hk => by rw [← hWy]; exact Below.heap_setCell Wz ⟨z, 1, none⟩ _ k hk))
                have y0 : Wy.cell? ⟨z, 0, none⟩ = some (.int .u8 q) := by rw [← hWy]; exact (World.cell?_setCell_other _ _ _ _ (by simp)).trans z0
                have y1 : Wy.cell? ⟨z, 1, none⟩ = some (.int .i64 (wrapI x 3)) := by rw [← hWy]; exact World.cell?_setCell_same _ _ _ z1
                have y2 : Wy.cell? ⟨z, 2, none⟩ = some (.int .i64 y) := by rw [← hWy]; exact (World.cell?_setCell_other _ _ _ _ (by simp)).trans z2
                have HFT := Lib.hid (show actC [fitA (q, x, y)] = [.int .u8 q, .int .i64 (wrapI x 3), .int .i64 y] from by unfold actC fitA; simp only [List.flatMap_cons, List.flatMap_nil, List.append_nil]; rw [if_neg h4])
                rw [hWy]
                clear hWy z0 z1 z2 f1 f2
                go_wp2_with (at_builtin; refine wpList_push3 (news := [.int .u8 q, .int .i64 (wrapI x 3), .int .i64 y]) rfl (.tmp 65) (.tmp 67) 31 rfl w.heap.size i0 (.agg #[.int .u8 0, .int .i64 0, .int .i64 0]) 3 24 Try.underlying31 HIE.out HZ0.out HZ1.out HZ2.out rfl (by decide) _ j (actC ((l.map fitA).take j)) rfl HOY.out rfl rfl (by simp [Value.oneCell']) (by decide) (by have := HJ.out; omega) HUY.out.size ?_; intro g5 d5 w5 hown5 hg5 hor5 hlt5 hbel5; have HF5 := Lib.hid (show FitA w w5 l (j + 1) (.slice (some ⟨g5, 0, none⟩) (j + 1) d5) from ⟨Below.trans HUY.out hbel5, by rw [HT.out, actC_app, HFT.out]; exact hown5⟩); clear hown5 hg5 hor5 hlt5 hbel5)
                go_roundw
                case rel => exact ⟨j + 1, by have := HJ.out; omega, by go_num, HF5⟩
                case measure => simp [intOf]; omega
            · obtain rfl : j = n := by omega
              obtain ⟨hua, hown⟩ := HA.out
              obtain ⟨A2, c3, rfl, hc3, _⟩ := own_form hown
              have HA2 := Lib.hid hown
              have HUA := Lib.hid hua
              obtain ⟨i0, hi', hz0, hz1, hz2⟩ := info_parts infoSA
              have HIE := Lib.hid hi'
              have HZ0 := Lib.hid hz0
              have HZ1 := Lib.hid hz1
              have HZ2 := Lib.hid hz2
              have HSW := Lib.hid hua.size
              clear hi' hz0 hz1 hz2 hua hown HA hlt
              go_wp2_with (at_builtin; refine wpList_push3 (news := [.slice A2 j c3]) rfl (.tmp 69) (.tmp 71) 32 rfl w.heap.size i0 (.slice none 0 0) 1 24 Try.underlying32 HIE.out HZ0.out HZ1.out HZ2.out rfl (by decide) _ 0 [] rfl (own_nil _ _ _ _) rfl rfl (by simp [Value.oneCell']) (by decide) (by decide) HSW.out ?_; intro g5 d5 w5 hown5 hg5 hor5 hlt5 hbel5; have HF5 := Lib.hid (fitP_mk HN.out HUA.out HA2.out hown5 hg5); clear hown5 hg5 hor5 hlt5 hbel5)
              exact ⟨.inr ⟨rfl, HF5⟩, by simp [intOf]⟩
        · obtain ⟨hup, m', cm, A', c', rfl, hm', hrow', hnil'⟩ := HP.out
          have HUP := Lib.hid hup
          have HMM := Lib.hid (And.intro hm' (And.intro hrow' hnil'))
          clear ho1 hm1
          have ho1 := (hup.cell (cell_lt ho)).trans ho
          have hm1 := (hup.cell (cell_lt hm)).trans hm
          obtain ⟨i0, hi', hz0, hz1, hz2⟩ := info_parts infoSSA
          have HIE := Lib.hid hi'
          have HZ0 := Lib.hid hz0
          have HZ1 := Lib.hid hz1
          have HZ2 := Lib.hid hz2
          have HSW := Lib.hid hup.size
          clear hi' hz0 hz1 hz2 hup hm' hrow' hnil' HP
          go_wp2_with (at_builtin; refine wpList_push3 (news := [.slice (some ⟨m', 0, none⟩) 1 cm]) rfl (.tmp 73) (.tmp 75) 33 rfl w.heap.size i0 (.slice none 0 0) 1 24 Try.underlying33 HIE.out HZ0.out HZ1.out HZ2.out rfl (by decide) _ 0 [] rfl (own_nil _ _ _ _) rfl rfl (by simp [Value.oneCell']) (by decide) (by decide) HSW.out ?_; intro g5 d5 w5 hown5 hg5 hor5 hlt5 hbel5; have HF5 := Lib.hid (fitO_mk HUP.out HMM.out.1 HMM.out.2.1 HMM.out.2.2 hown5 hg5); clear hown5 hg5 hor5 hlt5 hbel5)
          exact ⟨.inr ⟨rfl, HF5⟩, by simp [intOf]⟩
    · obtain ⟨hu, o', co, m', cm, A', c', rfl, h1⟩ := HO.out
      have H1 := Lib.hid h1
      have HU := Lib.hid hu
      clear HO h1 hu
      go_wp2_with fail
      go_ret
      exact ⟨_, rfl, HU.out, o', co, m', cm, A', c', rfl, H1.out⟩

end Go.Proofs.Ytedkgamecdmjdaa
