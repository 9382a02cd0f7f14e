/-
  The document's Same, of two outcomes.
-/
import Derived.Test.YtpandnodeldbjaaRefE
import Derived.Test.YtpandnodeldbjaaInts
import Derived.Laws.StructEq
set_option linter.unusedVariables false
set_option linter.unusedSimpArgs false
namespace Go.Proofs.Ytpandnodeldbjaa
open Go.RowKit

theorem neqAcc_same (a0 a1 a2 : Int) (W : World) : (binOp .neq 45 (.agg #[.int .i64 a0, .int .i64 a1, .int .i64 a2]) (.agg #[.int .i64 a0, .int .i64 a1, .int .i64 a2])).run Try.prog W = .ok (.bool false) W := by
  simp [go_sem]
theorem neqAcc_diff (a0 a1 a2 b0 b1 b2 : Int) (h : ¬ (a0 = b0 ∧ a1 = b1 ∧ a2 = b2)) (W : World) : (binOp .neq 45 (.agg #[.int .i64 a0, .int .i64 a1, .int .i64 a2]) (.agg #[.int .i64 b0, .int .i64 b1, .int .i64 b2])).run Try.prog W = .ok (.bool true) W := by
  simp [go_sem]
  intro h0 h1 h2
  exact absurd ⟨h0, h1, h2⟩ h
theorem neqNote_same (a0 a1 : Int) (W : World) : (binOp .neq 47 (.agg #[.int .i64 a0, .int .i64 a1]) (.agg #[.int .i64 a0, .int .i64 a1])).run Try.prog W = .ok (.bool false) W := by
  simp [go_sem]
theorem neqNote_diff (a0 a1 b0 b1 : Int) (h : ¬ (a0 = b0 ∧ a1 = b1)) (W : World) : (binOp .neq 47 (.agg #[.int .i64 a0, .int .i64 a1]) (.agg #[.int .i64 b0, .int .i64 b1])).run Try.prog W = .ok (.bool true) W := by
  simp [go_sem]
  intro h0 h1
  exact absurd ⟨h0, h1⟩ h

theorem acc_ext {a b : List (Int × Int × Int)} (hl : a.length = b.length) (h : ∀ j, j < a.length → a.getD j (0, 0, 0) = b.getD j (0, 0, 0)) : a = b := by
  apply List.ext_getElem hl
  intro i h1 h2
  have := h i h1
  rwa [List.getD_eq_getElem?_getD, List.getElem?_eq_getElem h1, List.getD_eq_getElem?_getD, List.getElem?_eq_getElem h2] at this
theorem note_ext {a b : List (Int × Int)} (hl : a.length = b.length) (h : ∀ j, j < a.length → a.getD j (0, 0) = b.getD j (0, 0)) : a = b := by
  apply List.ext_getElem hl
  intro i h1 h2
  have := h i h1
  rwa [List.getD_eq_getElem?_getD, List.getElem?_eq_getElem h1, List.getD_eq_getElem?_getD, List.getElem?_eq_getElem h2] at this

def sameB (da db : Bool) (la lb : List (Int × Int × Int)) (na nb : List (Int × Int)) (xa xb : List Int) : Bool := decide (da = db ∧ la = lb ∧ na = nb ∧ xa = xb)
/-- Two boxes of outcomes. -/
def Boxes (w W : World) (va vb : Array Value) : Prop := Up w W ∧ W.heap[w.heap.size]? = some (.cells va 29 (0, 0)) ∧ W.heap[w.heap.size + 1]? = some (.cells vb 29 (0, 0))
theorem boxes_new (w : World) (va vb : Array Value) : Boxes w ((w.alloc (.cells va 29)).alloc (.cells vb 29)) va vb := by
  refine ⟨((Up.refl w).alloc _).alloc _, ?_, ?_⟩
  · rw [Below.heap_alloc _ _ _ (by simp)]
    exact heap_alloc_new w _
  · have := heap_alloc_new (w.alloc (.cells va 29)) (.cells vb 29)
    rw [World.size_alloc] at this
    exact this
theorem Boxes.up {w W W' : World} {va vb : Array Value} (h : Boxes w W va vb) (hU : Up W W') : Boxes w W' va vb :=
  ⟨h.1.trans hU, (hU.block _ (Array.getElem?_eq_some_iff.1 h.2.1).1).trans h.2.1, (hU.block _ (Array.getElem?_eq_some_iff.1 h.2.2).1).trans h.2.2⟩
theorem Boxes.drew {w W : World} {va vb : Array Value} (h : Boxes w W va vb) (n : Nat) : Boxes w (W.drewN n) va vb := h.up ((Up.refl W).drewN n)

set_option maxRecDepth 10000 in
set_option maxHeartbeats 2000000 in
theorem same_any (da db : Bool) (la lb : List (Int × Int × Int)) (na nb : List (Int × Int)) (xa xb : List Int) (A1 A2 A3 B1 B2 B3 : Option Addr) (c1 c2 c3 d1 d2 d3 : Nat) (w : World)
    (ha1 : AccRow w A1 la) (ha2 : NoteRow w A2 na) (ha3 : Row w A3 xa.length (IVal xa)) (hb1 : AccRow w B1 lb) (hb2 : NoteRow w B2 nb) (hb3 : Row w B3 xb.length (IVal xb))
    (l1 : la.length ≤ 1000000000) (l2 : na.length ≤ 1000000000) (l3 : xa.length ≤ 1000000000) (l4 : xb.length ≤ 1000000000) :
    Calls Try.prog 20 #[.agg #[.bool da, .slice A1 la.length c1, .slice A2 na.length c2, .slice A3 xa.length c3], .agg #[.bool db, .slice B1 lb.length d1, .slice B2 nb.length d2, .slice B3 xb.length d3]] w fun e w' =>
      e = .returned (.bool (sameB da db la lb na nb xa xb)) ∧ Up w w' := by
  by_cases hd : da = db
  · subst hd
    by_cases hl : la.length = lb.length
    · by_cases hn : na.length = nb.length
      · have HI := Lib.hid (fun (W : World) (hU : Up w W) => ints_any xa xb A3 B3 c3 d3 W (by omega) (by omega) (ha3.up hU) (hb3.up hU))
        have HA := Lib.hid ha1
        have HB := Lib.hid hb1
        have HNA := Lib.hid ha2
        have HNB := Lib.hid hb2
        have HL := Lib.hid hl
        have HLN := Lib.hid hn
        have HBX := Lib.hid (boxes_new w #[.bool da, .slice A1 la.length c1, .slice A2 na.length c2, .slice A3 xa.length c3] #[.bool da, .slice B1 lb.length d1, .slice B2 nb.length d2, .slice B3 xb.length d3])
        have hbb : ∀ W : World, (binOp .neq 4 (.bool da) (.bool da)).run Try.prog W = .ok (.bool false) W := fun W => by cases da <;> rfl
        obtain ⟨n, hn'⟩ : ∃ n, la.length = n := ⟨_, rfl⟩
        obtain ⟨m, hm'⟩ : ∃ m, na.length = m := ⟨_, rfl⟩
        rw [← hl, ← hn, hn', hm'] at HBX ⊢
        rw [hn'] at l1
        rw [hm'] at l2
        have HN := Lib.hid hn'
        have HM := Lib.hid hm'
        generalize xa.length = p at *
        generalize xb.length = q at *
        clear ha1 ha2 ha3 hb1 hb2 hb3 hl hn hn' hm' l3 l4
        by_cases hx : xa = xb
        · have HDX := Lib.hid (show decide (xa = xb) = true from decide_eq_true hx)
          have HX := Lib.hid hx
          clear hx
          go_enter Try.func20, Try.ntmps20
          go_wp2_with fail
          refine (HI.out _ HBX.out.1).mono ?_
          rintro e w1 ⟨rfl, hb⟩
          rw [HDX.out]
          have HB1 := Lib.hid (HBX.out.up hb)
          have k1 := cell_of_row w1 _ 1 _ _ _ HB1.out.2.1
          clear hb HBX HI
          go_wp2_with fail
          go_loopw [5] (fun t wr => ∃ k : Nat, k ≤ n ∧ t = .int .i64 k ∧ Hid (∀ j, j < k → la.getD j (0, 0, 0) = lb.getD j (0, 0, 0)) ∧ Hid (Boxes w wr #[.bool da, .slice A1 n c1, .slice A2 m c2, .slice A3 p c3] #[.bool da, .slice B1 n d1, .slice B2 m d2, .slice B3 q d3])) (fun t _ => n - (intOf t).toNat)
          case atStart => exact ⟨0, by omega, rfl, Lib.hid (fun j hj => absurd hj (by omega)), HB1⟩
          case round =>
            obtain ⟨k, hk, rfl, HK, HBr⟩ := hrel
            have q1 := cell_of_row wr _ 1 _ _ _ HBr.out.2.1
            have q2 := cell_of_row wr _ 1 _ _ _ HBr.out.2.2
            simp only [List.getElem?_toArray, List.getElem?_cons_zero, List.getElem?_cons_succ] at q1 q2
            clear HB1
            by_cases hlt : k < n
            · obtain ⟨ba, offa, rfl, e1, e2, e3⟩ := HA.out k (by rw [HN.out]; exact hlt)
              obtain ⟨bb, offb, rfl, f1, f2, f3⟩ := HB.out k (by rw [← HL.out, HN.out]; exact hlt)
              have e1 := (HBr.out.1.cell (p := ⟨ba, offa + k * 3, none⟩) (cell_lt e1)).trans e1
              have e2 := (HBr.out.1.cell (p := ⟨ba, offa + k * 3 + 1, none⟩) (cell_lt e2)).trans e2
              have e3 := (HBr.out.1.cell (p := ⟨ba, offa + k * 3 + 2, none⟩) (cell_lt e3)).trans e3
              have f1 := (HBr.out.1.cell (p := ⟨bb, offb + k * 3, none⟩) (cell_lt f1)).trans f1
              have f2 := (HBr.out.1.cell (p := ⟨bb, offb + k * 3 + 1, none⟩) (cell_lt f2)).trans f2
              have f3 := (HBr.out.1.cell (p := ⟨bb, offb + k * 3 + 2, none⟩) (cell_lt f3)).trans f3
              by_cases heq : la.getD k (0, 0, 0) = lb.getD k (0, 0, 0)
              · have HK2 := Lib.hid (show ∀ j, j < k + 1 → la.getD j (0, 0, 0) = lb.getD j (0, 0, 0) from fun j hj => by
                  by_cases hj2 : j < k
                  · exact HK.out j hj2
                  · obtain rfl : j = k := by omega
                    exact heq)
                rw [heq] at e1 e2 e3
                clear heq
                generalize lb.getD k (0, 0, 0) = x at *
                obtain ⟨x0, x1, x2⟩ := x
                simp only at e1 e2 e3 f1 f2 f3
                have hne := neqAcc_same x0 x1 x2
                go_wp2_with fail
                go_quiet (fail)
                go_wp2_with fail
                go_roundw
                case rel => exact ⟨k + 1, by omega, by go_num, HK2, Lib.hid (HBr.out.drew _)⟩
                case measure => simp [intOf]; omega
              · have HF := Lib.hid (show sameB da da la lb na nb xa xb = false from decide_eq_false (fun h => heq (by rw [h.2.1])))
                generalize la.getD k (0, 0, 0) = x at *
                generalize lb.getD k (0, 0, 0) = y at *
                obtain ⟨x0, x1, x2⟩ := x
                obtain ⟨y0, y1, y2⟩ := y
                simp only at e1 e2 e3 f1 f2 f3
                have hne := neqAcc_diff x0 x1 x2 y0 y1 y2 (fun h => heq (by rw [h.1, h.2.1, h.2.2]))
                clear heq
                go_wp2_with fail
                go_quiet (fail)
                go_wp2_with fail
                go_ret
                exact ⟨by rw [HF.out]; rfl, (HBr.out.drew _).1⟩
            · obtain rfl : k = n := by omega
              have HLA := Lib.hid (acc_ext HL.out (fun j hj => HK.out j (by rw [← HN.out]; exact hj)))
              clear HK hlt
              go_wp2_with fail
              go_loopw [6] (fun t wr => ∃ j : Nat, j ≤ m ∧ t = .int .i64 j ∧ Hid (∀ i, i < j → na.getD i (0, 0) = nb.getD i (0, 0)) ∧ Hid (Boxes w wr #[.bool da, .slice A1 k c1, .slice A2 m c2, .slice A3 p c3] #[.bool da, .slice B1 k d1, .slice B2 m d2, .slice B3 q d3])) (fun t _ => m - (intOf t).toNat)
              case atStart => exact ⟨0, by omega, rfl, Lib.hid (fun j hj => absurd hj (by omega)), HBr⟩
              case round =>
                obtain ⟨j, hj, rfl, HJ, HBs⟩ := hrel
                have q1 := cell_of_row wr _ 2 _ _ _ HBs.out.2.1
                have q2 := cell_of_row wr _ 2 _ _ _ HBs.out.2.2
                simp only [List.getElem?_toArray, List.getElem?_cons_zero, List.getElem?_cons_succ] at q1 q2
                clear HBr
                by_cases hlt : j < m
                · obtain ⟨ba, offa, rfl, e1, e2⟩ := HNA.out j (by rw [HM.out]; exact hlt)
                  obtain ⟨bb, offb, rfl, f1, f2⟩ := HNB.out j (by rw [← HLN.out, HM.out]; exact hlt)
                  have e1 := (HBs.out.1.cell (p := ⟨ba, offa + j * 2, none⟩) (cell_lt e1)).trans e1
                  have e2 := (HBs.out.1.cell (p := ⟨ba, offa + j * 2 + 1, none⟩) (cell_lt e2)).trans e2
                  have f1 := (HBs.out.1.cell (p := ⟨bb, offb + j * 2, none⟩) (cell_lt f1)).trans f1
                  have f2 := (HBs.out.1.cell (p := ⟨bb, offb + j * 2 + 1, none⟩) (cell_lt f2)).trans f2
                  by_cases heq : na.getD j (0, 0) = nb.getD j (0, 0)
                  · have HJ2 := Lib.hid (show ∀ i, i < j + 1 → na.getD i (0, 0) = nb.getD i (0, 0) from fun i hi => by
                      by_cases hi2 : i < j
                      · exact HJ.out i hi2
                      · obtain rfl : i = j := by omega
                        exact heq)
                    rw [heq] at e1 e2
                    clear heq
                    generalize nb.getD j (0, 0) = x at *
                    obtain ⟨x0, x1⟩ := x
                    simp only at e1 e2 f1 f2
                    have hne := neqNote_same x0 x1
                    go_wp2_with fail
                    go_quiet (fail)
                    go_wp2_with fail
                    go_roundw
                    case rel => exact ⟨j + 1, by omega, by go_num, HJ2, Lib.hid (HBs.out.drew _)⟩
                    case measure => simp [intOf]; omega
                  · have HF := Lib.hid (show sameB da da la lb na nb xa xb = false from decide_eq_false (fun h => heq (by rw [h.2.2.1])))
                    generalize na.getD j (0, 0) = x at *
                    generalize nb.getD j (0, 0) = y at *
                    obtain ⟨x0, x1⟩ := x
                    obtain ⟨y0, y1⟩ := y
                    simp only at e1 e2 f1 f2
                    have hne := neqNote_diff x0 x1 y0 y1 (fun h => heq (by rw [h.1, h.2]))
                    clear heq
                    go_wp2_with fail
                    go_quiet (fail)
                    go_wp2_with fail
                    go_ret
                    exact ⟨by rw [HF.out]; rfl, (HBs.out.drew _).1⟩
                · obtain rfl : j = m := by omega
                  have HF := Lib.hid (show sameB da da la lb na nb xa xb = true from decide_eq_true ⟨rfl, HLA.out, note_ext HLN.out (fun i hi => HJ.out i (by rw [← HM.out]; exact hi)), HX.out⟩)
                  go_wp2_with fail
                  go_ret
                  exact ⟨by rw [HF.out]; rfl, HBs.out.1⟩
        · have HDX := Lib.hid (show decide (xa = xb) = false from decide_eq_false hx)
          have HF := Lib.hid (show sameB da da la lb na nb xa xb = false from decide_eq_false (fun h => hx h.2.2.2))
          clear hx
          go_enter Try.func20, Try.ntmps20
          go_wp2_with fail
          refine (HI.out _ HBX.out.1).mono ?_
          rintro e w1 ⟨rfl, hb⟩
          rw [HDX.out]
          have HB1 := Lib.hid (HBX.out.1.trans hb)
          clear hb
          go_wp2_with fail
          go_ret
          exact ⟨by rw [HF.out]; rfl, HB1.out⟩
      · have HF := Lib.hid (show sameB da da la lb na nb xa xb = false from decide_eq_false (fun h => hn (by rw [h.2.2.1])))
        have hbb : ∀ W : World, (binOp .neq 4 (.bool da) (.bool da)).run Try.prog W = .ok (.bool false) W := fun W => by cases da <;> rfl
        have hne : ((na.length : Int) != (nb.length : Int)) = true := by rw [bne_iff_ne]; omega
        rw [← hl]
        generalize la.length = n at *
        generalize na.length = m at *
        generalize nb.length = m2 at *
        generalize xa.length = p at *
        generalize xb.length = q at *
        clear ha1 ha2 ha3 hb1 hb2 hb3 hl hn
        go_enter Try.func20, Try.ntmps20
        go_wp2_with fail
        go_ret
        exact ⟨by rw [HF.out]; rfl, ((Up.refl w).alloc _).alloc _⟩
    · have HF := Lib.hid (show sameB da da la lb na nb xa xb = false from decide_eq_false (fun h => hl (by rw [h.2.1])))
      have hbb : ∀ W : World, (binOp .neq 4 (.bool da) (.bool da)).run Try.prog W = .ok (.bool false) W := fun W => by cases da <;> rfl
      have hne : ((la.length : Int) != (lb.length : Int)) = true := by rw [bne_iff_ne]; omega
      generalize la.length = n at *
      generalize lb.length = n2 at *
      generalize na.length = m at *
      generalize nb.length = m2 at *
      generalize xa.length = p at *
      generalize xb.length = q at *
      clear ha1 ha2 ha3 hb1 hb2 hb3 hl
      go_enter Try.func20, Try.ntmps20
      go_wp2_with fail
      go_ret
      exact ⟨by rw [HF.out]; rfl, ((Up.refl w).alloc _).alloc _⟩
  · have HF := Lib.hid (show sameB da db la lb na nb xa xb = false from decide_eq_false (fun h => hd h.1))
    have hbb : ∀ W : World, (binOp .neq 4 (.bool da) (.bool db)).run Try.prog W = .ok (.bool true) W := fun W => by cases da <;> cases db <;> first | rfl | exact absurd rfl hd
    generalize la.length = n at *
    generalize lb.length = n2 at *
    generalize na.length = m at *
    generalize nb.length = m2 at *
    generalize xa.length = p at *
    generalize xb.length = q at *
    clear ha1 ha2 ha3 hb1 hb2 hb3 hd
    go_enter Try.func20, Try.ntmps20
    go_wp2_with fail
    go_ret
    exact ⟨by rw [HF.out]; rfl, ((Up.refl w).alloc _).alloc _⟩

end Go.Proofs.Ytpandnodeldbjaa
