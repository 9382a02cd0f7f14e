/-
  plan.Lay: the walk.
-/
import Derived.Test.YtlclijnoablejaaPlanC
set_option linter.unusedVariables false
set_option linter.unusedSimpArgs false
namespace Go.Proofs.Ytlclijnoablejaa
open Go.RowKit

theorem infoReg : (Try.prog.info? 29).map (fun i => (i.zero, i.size, i.bytes)) = some (some (.agg #[.int .i64 0, .int .i64 0, .int .i64 0, .int .i64 0, .int .i64 0, .int .i64 0, .int .i64 0]), 7, 56) := by kernel_rfl
def LayPost (n : Nat) (built : Bool) (b c : Nat) (l : List (Int × Int)) (w : World) (e : Ending) (w' : World) : Prop := ∃ v er, e = .returned (.tuple #[v, .int .i64 er]) ∧ Up w w' ∧
  ((er ≠ 0 ∧ v = .slice none 0 0 ∧ ¬ (WriterOk n l ∧ AllFine (regsOf n built b c l) l.length)) ∨ (er = 0 ∧ OwnReg w' w.heap.size v (regsOf n built b c l) ∧ WriterOk n l ∧ AllFine (regsOf n built b c l) l.length))

set_option maxRecDepth 10000 in
set_option maxHeartbeats 2000000 in
theorem lay_any (n : Nat) (built : Bool) (b c : Nat) (l : List (Int × Int)) (A : Option Addr) (cc : Nat) (w : World) (hn : 1 ≤ n ∧ n ≤ 8) (hb : b ≤ 32768) (hc : c ≤ 32768) (hl : l.length ≤ 40) (hr : PairRow w A l) :
    Calls Try.prog 7 #[.slice A l.length cc, .int .i64 n, .int .i64 (if built then 2 else 1), .int .i64 b, .int .i64 c] w (LayPost n built b c l w) := by
  obtain ⟨i0, hi, hz0, hz1, hz2⟩ := sinfo_parts infoReg
  have HI := Lib.hid hi
  have HZ0 := Lib.hid hz0
  have HZ1 := Lib.hid hz1
  have HZ2 := Lib.hid hz2
  have HR := Lib.hid hr
  have HWA := Lib.hid (fun wr tp W => want_any wr tp n built W)
  have HN := Lib.hid hn
  have HBC := Lib.hid (And.intro hb hc)
  have hn1 : (1 : Int) ≤ n := by omega
  have hn8 : (n : Int) ≤ 8 := by omega
  have hb0 : (0 : Int) ≤ b := by omega
  have hc0 : (0 : Int) ≤ c := by omega
  obtain ⟨m, hm, hmm⟩ : ∃ m : Int, (if built then (2 : Int) else 1) = m ∧ (m = 1 ∨ m = 2) := ⟨_, rfl, by cases built <;> simp⟩
  rw [hm] at HWA ⊢
  clear hi hz0 hz1 hz2 hr hn hb hc hm
  have hm1 : (m != 1 && m != 2) = false := by rcases hmm with rfl | rfl <;> rfl
  go_enter Try.func7, Try.ntmps7
  rcases hmm with rfl | rfl
  all_goals
    go_wp2_with fail
    go_loopw [40] (fun x wr => ∃ j : Nat, j ≤ l.length ∧ x = .int .i64 j ∧ Hid (Up w wr ∧ ∀ k, k < j → -1 ≤ (l.getD k (0, 0)).1 ∧ (l.getD k (0, 0)).1 < n)) (fun v _ => l.length - (intOf v).toNat)
    case atStart => exact ⟨0, by omega, rfl, Lib.hid ⟨Up.refl _, fun k hk => absurd hk (Nat.not_lt_zero k)⟩⟩
    case round =>
      obtain ⟨j, hj, rfl, HW⟩ := hrel
      by_cases hlt : j < l.length
      · have hji : (j : Int) < l.length := by omega
        have hj0 : (0 : Int) ≤ j := by omega
        obtain ⟨p, off, rfl, x0, x1⟩ := HR.out.up HW.out.1 j hlt
        have HUB := Lib.hid (HW.out.1.trans ((Up.refl wr).alloc (.cells #[.int .i64 (l.getD j (0, 0)).1, .int .i64 (l.getD j (0, 0)).2] 33)))
        by_cases hin : -1 ≤ (l.getD j (0, 0)).1 ∧ (l.getD j (0, 0)).1 < n
        · have HIN : Hid (∀ k, k < j + 1 → -1 ≤ (l.getD k (0, 0)).1 ∧ (l.getD k (0, 0)).1 < n) := Lib.hid (fun k hk => by
            by_cases hkj : k = j
            · rw [hkj]; exact hin
            · exact HW.out.2 k (by omega))
          obtain ⟨i1, i2⟩ := hin
          generalize l.getD j (0, 0) = a at x0 x1 i1 i2 HUB
          obtain ⟨a1, a2⟩ := a
          dsimp only at x0 x1 i1 i2 HUB
          go_wp2_with fail
          go_roundw
          case rel => exact ⟨j + 1, by omega, by go_num, Lib.hid ⟨HUB.out, HIN.out⟩⟩
          case measure => simp [intOf]; omega
        · have HIN : Hid (¬ WriterOk n l) := Lib.hid (fun h => hin (h j hlt))
          generalize l.getD j (0, 0) = a at x0 x1 hin HUB
          obtain ⟨a1, a2⟩ := a
          dsimp only at x0 x1 hin HUB
          by_cases i1 : a1 < -1
          · clear hin
            go_wp2_with fail
            go_ret2
            exact ⟨_, 1, rfl, HUB.out, Or.inl ⟨by decide, rfl, fun h => HIN.out h.1⟩⟩
          · have i2 : (n : Int) ≤ a1 := by omega
            clear hin
            go_wp2_with fail
            go_ret2
            exact ⟨_, 1, rfl, HUB.out, Or.inl ⟨by decide, rfl, fun h => HIN.out h.1⟩⟩
      · obtain rfl : j = l.length := by omega
        have HOK : Hid (WriterOk n l) := Lib.hid HW.out.2
        have HUW := Lib.hid HW.out.1
        clear hlt HW
        go_wp2_with fail
        go_loopw [3, 4, 14, 56] (fun y z u x wr => ∃ j : Nat, j ≤ l.length ∧ y = .int .i64 ((b + sumF cellsN (regsOf n built b c l) j : Nat) : Int) ∧ z = .int .i64 ((c + sumF localsN (regsOf n built b c l) j : Nat) : Int) ∧ x = .int .i64 j ∧ Hid (wr.ownsRow w.heap.size 29 7 u j (rrow ((regsOf n built b c l).take j)) ∧ AllFine (regsOf n built b c l) j ∧ Up w wr)) (fun _ _ _ v _ => l.length - (intOf v).toNat)
        case atStart => exact ⟨0, by omega, rfl, rfl, rfl, Lib.hid ⟨own_nil _ _ _ _, fun k hk => absurd hk (Nat.not_lt_zero k), HUW.out⟩⟩
        case round =>
          obtain ⟨j, hj, rfl, rfl, rfl, HV⟩ := hrel
          by_cases hlt : j < l.length
          · have hji : (j : Int) < l.length := by omega
            have hj0 : (0 : Int) ≤ j := by omega
            obtain ⟨p, off, rfl, x0, x1⟩ := HR.out.up HV.out.2.2 j hlt
            have HUB := Lib.hid (HV.out.2.2.trans ((Up.refl wr).alloc (.cells #[.int .i64 (l.getD j (0, 0)).1, .int .i64 (l.getD j (0, 0)).2] 33)))
            have HSB := Lib.hid (sum_of_fine n built l b c j HBC.out.1 HBC.out.2 hj HV.out.2.1)
            have HRJ := Lib.hid (regsOf_at n built l b c j hlt)
            have HS1 := Lib.hid (sumF_succ cellsN (regsOf n built b c l) j (by rw [regsOf_len]; exact hlt))
            have HS2 := Lib.hid (sumF_succ localsN (regsOf n built b c l) j (by rw [regsOf_len]; exact hlt))
            have HTK : Hid ((regsOf n built b c l).take (j + 1) = (regsOf n built b c l).take j ++ [(regsOf n built b c l).getD j r0]) := Lib.hid (by rw [List.take_succ_eq_append_getElem (by rw [regsOf_len]; exact hlt), List.getD_eq_getElem?_getD, List.getElem?_eq_getElem (by rw [regsOf_len]; exact hlt)]; rfl)
            have HWT : Hid (Wanted ((regsOf n built b c l).getD j r0)) := Lib.hid (by
              rw [HRJ.out]
              have h := wantR_ok (l.getD j (0, 0)).1 (l.getD j (0, 0)).2 n built HN.out (HOK.out j hlt)
              exact ⟨h.laid, h.top, h.wr, h.rd, h.tab⟩)
            have HCA := Lib.hid (HWA.out (l.getD j (0, 0)).1 (l.getD j (0, 0)).2)
            have HFL : Hid (fineB ((regsOf n built b c l).getD j r0) = false → ¬ AllFine (regsOf n built b c l) l.length) := Lib.hid (fun hf h => by have h2 := h j hlt; rw [hf] at h2; exact absurd h2 (by decide))
            have HFT : Hid (fineB ((regsOf n built b c l).getD j r0) = true → AllFine (regsOf n built b c l) (j + 1)) := Lib.hid (fun hf k hk => by
              by_cases hkj : k = j
              · rw [hkj]; exact hf
              · exact HV.out.2.1 k (by omega))
            have HFI := Lib.hid (fun W => rfine_any ((regsOf n built b c l).getD j r0) W HWT.out (by rw [HRJ.out]; dsimp only; have := HSB.out.1; omega) (by rw [HRJ.out]; dsimp only; have := HSB.out.2; omega))
            have HCE := Lib.hid (fun W => rcells_any ((regsOf n built b c l).getD j r0) W HWT.out.laid)
            have HLO := Lib.hid (fun W => rlocals_any ((regsOf n built b c l).getD j r0) W HWT.out.laid)
            have hw1 := sum_wrap (b + sumF cellsN (regsOf n built b c l) j) (cellsN ((regsOf n built b c l).getD j r0)) (by have := cellsN_le _ HWT.out.laid; have := HSB.out.1; omega)
            have hw2 := sum_wrap (c + sumF localsN (regsOf n built b c l) j) (localsN ((regsOf n built b c l).getD j r0)) (by have := localsN_le _ HWT.out.laid; have := HSB.out.2; omega)
            rw [Nat.add_assoc b, ← HS1.out] at hw1
            rw [Nat.add_assoc c, ← HS2.out] at hw2
            clear HS1 HS2 HSB HWT
            have hrj := HRJ.out
            clear HRJ
            generalize l.getD j (0, 0) = a at *
            obtain ⟨a1, a2⟩ := a
            dsimp only at x0 x1 HUB HCA hrj
            unfold rcells wantR at HCA
            unfold wantR at hrj
            dsimp only at HCA hrj
            generalize (if built = true then if a1 = -1 then (7 : Int) else 6 else 1) = K at *
            generalize max 1 (min a2 255) = T at *
            rw [hrj] at HFI HCE HLO HTK HFL HFT hw1 hw2
            unfold rcells at HFI HCE HLO
            dsimp only at HFI HCE HLO
            clear hrj
            generalize hY : ((b + sumF cellsN (regsOf n built b c l) j : Nat) : Int) = Y at *
            generalize hZ : ((c + sumF localsN (regsOf n built b c l) j : Nat) : Int) = Z at *
            clear hY hZ
            generalize cellsN ⟨K, Y, Z, n, a1, -1, T⟩ = c1 at *
            generalize localsN ⟨K, Y, Z, n, a1, -1, T⟩ = c2 at *
            generalize hfb : fineB ⟨K, Y, Z, n, a1, -1, T⟩ = fb at *
            clear hfb
            go_wp2_with fail
            refine (HCA.out _).mono ?_
            rintro e w2 ⟨rfl, hu2⟩
            have HU2 := Lib.hid (HUB.out.trans hu2)
            have HZ2W := Lib.hid (show wr.heap.size + 1 ≤ w2.heap.size from by have := hu2.size; simpa using this)
            have HB2 : Hid (RegBox (w2.alloc (.cells (rcells ⟨K, Y, Z, n, a1, -1, T⟩) 29)) w2.heap.size ⟨K, Y, Z, n, a1, -1, T⟩) := Lib.hid (heap_alloc_new w2 _)
            have HU3 := Lib.hid (show Up w2 (w2.alloc (.cells (rcells ⟨K, Y, Z, n, a1, -1, T⟩) 29)) from (Up.refl w2).alloc _)
            have HU02 := Lib.hid (((Up.refl wr).alloc (.cells #[.int .i64 a1, .int .i64 a2] 33)).trans hu2)
            unfold rcells at HB2 HU3
            dsimp only at HB2 HU3
            clear hu2 x0 x1
            go_wp2_with fail
            refine (HFI.out _).mono ?_
            rintro e w3 ⟨rfl, hu3⟩
            have HU23 := Lib.hid (HU3.out.trans hu3)
            have HB3 := Lib.hid (show RegBox w3 w2.heap.size ⟨K, Y, Z, n, a1, -1, T⟩ from RegBox.up HB2.out hu3)
            have HZ23 := Lib.hid (show w2.heap.size + 1 ≤ w3.heap.size from by have := hu3.size; simpa using this)
            clear hu3
            cases fb
            · go_wp2_with fail
              go_ret2
              exact ⟨_, 6, rfl, HU2.out.trans HU23.out, Or.inl ⟨by decide, rfl, fun h => HFL.out (by first | trivial | rfl | simp) h.2⟩⟩
            · obtain ⟨y0, y1, y2, y3, y4, y5, y6⟩ := HB3.out.cells
              dsimp only at y0 y1 y2 y3 y4 y5 y6
              have HO3 := Lib.hid (own_up3 HV.out.1 (HU02.out.trans HU23.out))
              have HBS := Lib.hid (show w.heap.size ≤ w3.heap.size from (HU2.out.trans HU23.out).size)
              generalize hq : w2.heap.size = q at *
              go_wp2_with (at_builtin; refine wpList_push (news := [.int .i64 K, .int .i64 Y, .int .i64 Z, .int .i64 n, .int .i64 a1, .int .i64 (-1), .int .i64 T]) rfl (.tmp 71) (.tmp 73) 24 rfl w.heap.size i0 (.agg #[.int .i64 0, .int .i64 0, .int .i64 0, .int .i64 0, .int .i64 0, .int .i64 0, .int .i64 0]) 7 56 Try.underlying24 HI.out HZ0.out HZ1.out HZ2.out rfl (by decide) _ j (rrow ((regsOf n built b c l).take j)) rfl HO3.out rfl rfl (by simp [Value.oneCell']) (by decide) (by omega) HBS.out ?_; intro v' w6 hown6 hg hbl; have HB6 := Lib.hid (show RegBox w6 q ⟨K, Y, Z, n, a1, -1, T⟩ from (hg.block q (by have := HZ23.out; omega) (fun e => by have := (HV.out.1.lt q e.symm).2; have := HZ2W.out; omega)).trans HB3.out); have HO6 : Hid (w6.ownsRow w.heap.size 29 7 v' (j + 1) (rrow ((regsOf n built b c l).take (j + 1)))) := Lib.hid (by rw [HTK.out, rrow_append]; exact hown6); have HU6 := Lib.hid (show Up w w6 from Below.trans (HU2.out.trans HU23.out) hbl); clear hown6 hg hbl y0 y1 y2 y3 y4 y5 y6; obtain ⟨y0, y1, y2, y3, y4, y5, y6⟩ := HB6.out.cells; dsimp only at y0 y1 y2 y3 y4 y5 y6)
              refine (HCE.out _).mono ?_
              rintro e w7 ⟨rfl, hu7⟩
              have HB7 := Lib.hid (show RegBox w7 q ⟨K, Y, Z, n, a1, -1, T⟩ from RegBox.up HB6.out hu7)
              have HU67 := Lib.hid hu7
              clear hu7 y0 y1 y2 y3 y4 y5 y6
              obtain ⟨y0, y1, y2, y3, y4, y5, y6⟩ := HB7.out.cells
              dsimp only at y0 y1 y2 y3 y4 y5 y6
              go_wp2_with fail
              refine (HLO.out _).mono ?_
              rintro e w8 ⟨rfl, hu8⟩
              have HU68 := Lib.hid (HU67.out.trans hu8)
              clear hu8
              have HOR := Lib.hid (own_up3 HO6.out HU68.out)
              have HU8 := Lib.hid (HU6.out.trans HU68.out)
              have HAF := Lib.hid (HFT.out (by first | trivial | rfl | simp))
              go_wp2_with fail
              go_roundw
              case rel => exact ⟨j + 1, by omega, by first | rfl | rw [hw1], by first | rfl | rw [hw2], by go_num, Lib.hid ⟨HOR.out, HAF.out, HU8.out⟩⟩
              case measure => simp [intOf]; omega
          · obtain rfl : j = l.length := by omega
            clear hlt
            go_wp2_with fail
            go_ret2
            have ht : (regsOf n built b c l).take l.length = regsOf n built b c l := by rw [← regsOf_len n built l b c, List.take_length]
            have ho := HV.out.1
            rw [ht] at ho
            exact ⟨_, 0, rfl, HV.out.2.2, Or.inr ⟨rfl, by unfold OwnReg; rw [regsOf_len]; exact ho, HOK.out, HV.out.2.1⟩⟩

end Go.Proofs.Ytlclijnoablejaa
