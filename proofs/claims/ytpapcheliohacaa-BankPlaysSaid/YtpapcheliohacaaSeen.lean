/-
  The document's cell: what a read that is over may tell.
-/
import Derived.Test.YtpapcheliohacaaDocI
set_option linter.unusedVariables false
set_option linter.unusedSimpArgs false
namespace Go.Proofs.Ytpapcheliohacaa
open Go.RowKit

def actV (a : DA) : Value := .agg #[.int .i64 a.t, .int .i64 a.k, .int .i64 a.cl, .int .i64 a.v, .int .i64 a.from_, .int .i64 a.to, .int .i64 a.was]
theorem filter_take (L : List DA) (q : DA → Bool) (j : Nat) (h : j < L.length) : ((L.take (j + 1)).filter q).map DA.v = ((L.take j).filter q).map DA.v ++ (if q (L.getD j da0) = true then [(L.getD j da0).v] else []) := by
  have e : L.getD j da0 = L[j] := by rw [List.getD_eq_getElem?_getD, List.getElem?_eq_getElem h]; rfl
  rw [List.take_succ_eq_append_getElem h, List.filter_append, List.map_append, e]
  split
  · rename_i h1; rw [List.filter_cons_of_pos h1]; rfl
  · rename_i h1; rw [List.filter_cons_of_neg h1]; rfl
theorem filter_few (L : List DA) (q : DA → Bool) (j : Nat) (h : j ≤ L.length) : (((L.take j).filter q).map DA.v).length ≤ j := by
  have := List.length_filter_le q (L.take j)
  rw [List.length_map]
  simp at this
  omega
theorem earlyN_few (L : List DA) (f : Int) : ∀ n, (earlyN L f n).length ≤ n * L.length
  | 0 => by simp [earlyN]
  | n + 1 => by
    have h := earlyN_few L f n
    have h2 := filter_few L (earlyB f n) L.length (Nat.le_refl _)
    rw [List.take_length] at h2
    unfold earlyN earlyL
    rw [List.length_append, Nat.succ_mul]
    omega
theorem early_cases (t1 t2 t3 t4 t5 : Bool) : t1 = false ∨ (t1 = true ∧ t2 = false) ∨ (t1 = true ∧ t2 = true ∧ t3 = false) ∨ (t1 = true ∧ t2 = true ∧ t3 = true ∧ t4 = false ∧ t5 = false) ∨ (t1 = true ∧ t2 = true ∧ t3 = true ∧ t4 = true) ∨ (t1 = true ∧ t2 = true ∧ t3 = true ∧ t4 = false ∧ t5 = true) := by
  cases t1 <;> cases t2 <;> cases t3 <;> cases t4 <;> cases t5 <;> simp
theorem own_le {w : World} {base base' size n : Nat} {e : TypeId} {v : Value} {xs : List Value} (h : w.ownsRow base e size v n xs) (hb : base' ≤ base) : w.ownsRow base' e size v n xs :=
  ⟨h.1, h.2.imp id fun ⟨g, cap, cur, hv, hg, hr⟩ => ⟨g, cap, cur, hv, Nat.le_trans hb hg, hr⟩⟩
/-- The row under way. -/
def SeenSt (w wr : World) (u : Value) (o : List Int) : Prop := Up w wr ∧ wr.ownsRow w.heap.size 3 1 u o.length (icells o)
theorem SeenSt.alloc {w wr : World} {u : Value} {o : List Int} (h : SeenSt w wr u o) (x : Obj) : SeenSt w (wr.alloc x) u o := ⟨h.1.alloc x, h.2.alloc x⟩

set_option maxRecDepth 10000 in
set_option maxHeartbeats 4000000 in
theorem seen_any (r B : Nat) (D : DS) (Lv : Value) (a : DA) (w : World) (H : DocIs w r B D Lv) (hL : D.L.length ≤ 1000) :
    Calls Try.prog 34 #[.pointer (some ⟨r, 0, none⟩), actV a] w fun e w' => ∃ v, e = .returned v ∧ Up w w' ∧ w'.ownsRow w.heap.size 3 1 v (seenD D.L a.from_ a.was).length (icells (seenD D.L a.from_ a.was)) := by
  obtain ⟨A, cc, rfl, hrow⟩ := H.row
  have HH := Lib.hid H
  have HR := Lib.hid hrow
  obtain ⟨at', ak, acl, av, af, ato, aw⟩ := a
  unfold actV
  dsimp only
  obtain ⟨i0, hi, hz0, hz1, hz2⟩ := info_parts2
  have HI := Lib.hid hi
  have HZ0 := Lib.hid hz0
  have HZ1 := Lib.hid hz1
  have HZ2 := Lib.hid hz2
  clear H hrow hi hz0 hz1 hz2
  have hu1 : Up w (w.alloc (.cells #[.int .i64 at', .int .i64 ak, .int .i64 acl, .int .i64 av, .int .i64 af, .int .i64 ato, .int .i64 aw] 71)) := (Up.refl w).alloc _
  have hb1 := heap_alloc_new w (.cells #[.int .i64 at', .int .i64 ak, .int .i64 acl, .int .i64 av, .int .i64 af, .int .i64 ato, .int .i64 aw] 71)
  have hs1 : (w.alloc (.cells #[.int .i64 at', .int .i64 ak, .int .i64 acl, .int .i64 av, .int .i64 af, .int .i64 ato, .int .i64 aw] 71)).heap.size = w.heap.size + 1 := by simp
  have HU1 := Lib.hid hu1
  have HB1 := Lib.hid hb1
  have HS1 := Lib.hid hs1
  have f4 := cell_of_row _ _ 4 _ _ _ hb1
  have f6 := cell_of_row _ _ 6 _ _ _ hb1
  simp only [List.getElem?_toArray, List.getElem?_cons_zero, List.getElem?_cons_succ] at f4 f6
  clear hu1 hb1 hs1
  go_enter Try.func34, Try.ntmps34
  go_wp2_with fail
  generalize hx1 : w.alloc (.cells #[.int .i64 at', .int .i64 ak, .int .i64 acl, .int .i64 av, .int .i64 af, .int .i64 ato, .int .i64 aw] 71) = w1 at *
  have HF4 := Lib.hid f4
  clear f4 f6
  go_loopw [5, 6] (fun u t wr => ∃ (k : Nat), k ≤ 8 ∧ t = .int .i64 k ∧ Hid (SeenSt w1 wr u ([aw] ++ earlyN D.L af k))) (fun _ t _ => 8 - (intOf t).toNat)
  case atStart => exact ⟨0, by omega, rfl, Lib.hid ⟨(Up.refl w1).alloc _, ⟨rfl, .inr ⟨w.heap.size + 1, 1, #[.int .i64 aw], rfl, by rw [HS1.out]; exact Nat.le_refl _, by rw [← HS1.out]; exact heap_alloc_new w1 _, Nat.le_refl _, by decide, rfl, rfl⟩⟩⟩⟩
  case round =>
    obtain ⟨k, hk, rfl, HO⟩ := hrel
    by_cases hlt : k < 8
    · have hki : (k : Int) < 8 := by omega
      have hk0 : (0 : Int) ≤ k := by omega
      have HF := Lib.hid (earlyN_few D.L af k)
      have HEN := Lib.hid (show earlyN D.L af (k + 1) = earlyN D.L af k ++ earlyL D.L af (k : Int) from rfl)
      generalize earlyN D.L af k = o at *
      go_wp2_with fail
      go_loopw [5, 7] (fun u t wx => ∃ (j : Nat), j ≤ D.L.length ∧ t = .int .i64 j ∧ Hid (SeenSt w1 wx u (([aw] ++ o) ++ earlyL (D.L.take j) af k))) (fun _ t _ => D.L.length - (intOf t).toNat)
      case atStart => exact ⟨0, by omega, rfl, Lib.hid (by simpa [earlyL] using HO.out)⟩
      case round =>
        obtain ⟨j, hj, rfl, HS⟩ := hrel
        have HUW := Lib.hid (HU1.out.trans HS.out.1)
        have k4 := (HH.out.up HUW.out).k4
        by_cases hjl : j < D.L.length
        · have hji : (j : Int) < D.L.length := by omega
          have hj0 : (0 : Int) ≤ j := by omega
          have HQ := Lib.hid (filter_take D.L (earlyB af k) j hjl)
          have HFL := Lib.hid (filter_few D.L (earlyB af k) j (by omega))
          obtain ⟨b, rfl, h0, h1, h2, h3, h4, h5, h6⟩ := (HR.out.up HUW.out) j hjl
          unfold earlyL at HS ⊢
          generalize ((D.L.take j).filter (earlyB af k)).map DA.v = oj at *
          obtain ⟨oj2, hoj2⟩ : ∃ z, ((D.L.take (j + 1)).filter (earlyB af k)).map DA.v = z := ⟨_, rfl⟩
          rw [hoj2] at HQ
          have HO2 := Lib.hid hoj2
          clear hoj2
          generalize D.L.getD j da0 = x at *
          obtain ⟨xt, xk, xcl, xv, xf, xto, xw⟩ := x
          dsimp only at h0 h1 h2 h3 h4 h5 h6
          unfold earlyB at HQ
          dsimp only at HQ
          have hbx := heap_alloc_new wr (.cells #[.int .i64 xt, .int .i64 xk, .int .i64 xcl, .int .i64 xv, .int .i64 xf, .int .i64 xto, .int .i64 xw] 71)
          have hux : Up wr (wr.alloc (.cells #[.int .i64 xt, .int .i64 xk, .int .i64 xcl, .int .i64 xv, .int .i64 xf, .int .i64 xto, .int .i64 xw] 71)) := (Up.refl wr).alloc _
          have HS3 := Lib.hid (HS.out.alloc (.cells #[.int .i64 xt, .int .i64 xk, .int .i64 xcl, .int .i64 xv, .int .i64 xf, .int .i64 xto, .int .i64 xw] 71))
          have f4 := (HS3.out.1.cell (p := ⟨w.heap.size, 4, none⟩) (cell_lt HF4.out)).trans HF4.out
          have c0 := cell_of_row _ _ 0 _ _ _ hbx
          have c1 := cell_of_row _ _ 1 _ _ _ hbx
          have c3 := cell_of_row _ _ 3 _ _ _ hbx
          have c4 := cell_of_row _ _ 4 _ _ _ hbx
          have c5 := cell_of_row _ _ 5 _ _ _ hbx
          simp only [List.getElem?_toArray, List.getElem?_cons_zero, List.getElem?_cons_succ] at c0 c1 c3 c4 c5
          clear hbx hux
          rcases early_cases (xt == (k : Int)) (xk == 2) (decide (xf < af)) (decide (xto < 0)) (decide (af < xto)) with e1 | ⟨e1, e2⟩ | ⟨e1, e2, e3⟩ | ⟨e1, e2, e3, e4, e5⟩ | ⟨e1, e2, e3, e4⟩ | ⟨e1, e2, e3, e4, e5⟩
          · have HQ2 := Lib.hid (show oj2 = oj from by rw [HQ.out, e1]; simp)
            go_wp2_with fail
            go_roundw
            case rel => exact ⟨j + 1, by omega, by go_num, Lib.hid (by rw [HO2.out, HQ2.out]; exact HS3.out)⟩
            case measure => simp [intOf]; omega
          · have HQ2 := Lib.hid (show oj2 = oj from by rw [HQ.out, e1,e2]; simp)
            go_wp2_with fail
            go_roundw
            case rel => exact ⟨j + 1, by omega, by go_num, Lib.hid (by rw [HO2.out, HQ2.out]; exact HS3.out)⟩
            case measure => simp [intOf]; omega
          · have HQ2 := Lib.hid (show oj2 = oj from by rw [HQ.out, e1,e2,e3]; simp)
            go_wp2_with fail
            go_roundw
            case rel => exact ⟨j + 1, by omega, by go_num, Lib.hid (by rw [HO2.out, HQ2.out]; exact HS3.out)⟩
            case measure => simp [intOf]; omega
          · have HQ2 := Lib.hid (show oj2 = oj from by rw [HQ.out, e1,e2,e3,e4,e5]; simp)
            go_wp2_with fail
            go_roundw
            case rel => exact ⟨j + 1, by omega, by go_num, Lib.hid (by rw [HO2.out, HQ2.out]; exact HS3.out)⟩
            case measure => simp [intOf]; omega
          · have HQ2 := Lib.hid (show oj2 = oj ++ [xv] from by rw [HQ.out, e1,e2,e3,e4]; simp)
            have HSZ := Lib.hid (show w1.heap.size ≤ (wr.alloc (.cells #[.int .i64 xt, .int .i64 xk, .int .i64 xcl, .int .i64 xv, .int .i64 xf, .int .i64 xto, .int .i64 xw] 71)).heap.size from HS3.out.1.size)
            have HBY := Lib.hid (show ((([aw] ++ o) ++ oj).length + 1) * 8 ≤ 140737488355328 by
              have h1 := HF.out
              have h2 := HFL.out
              have h3 : k * D.L.length ≤ 8 * 1000 := Nat.mul_le_mul (by omega) hL
              simp only [List.length_append, List.length_cons, List.length_nil]
              omega)
            have HOWN := Lib.hid HS3.out.2
            go_wp2_with (at_builtin; refine wpList_push (news := [.int .i64 xv]) rfl (.tmp 63) (.tmp 67) 45 rfl w1.heap.size i0 (.int .i64 0) 1 8 Try.underlying45 HI.out HZ0.out HZ1.out HZ2.out rfl (by decide) _ (([aw] ++ o) ++ oj).length (icells (([aw] ++ o) ++ oj)) rfl HOWN.out (by show Value.slice (some ⟨wr.heap.size + 1, 0, none⟩) 1 1 = _; simp) rfl (by simp [Value.oneCell']) (by decide) HBY.out HSZ.out ?_; intro v' w6 hown6 hg hbl)
            have HS6 := Lib.hid (show SeenSt w1 w6 v' (([aw] ++ o) ++ oj2) from by
              refine ⟨show Below w1.heap.size w1 w6 from Below.trans HS3.out.1 hbl, ?_⟩
              rw [HQ2.out, ← List.append_assoc]
              have e : icells (([aw] ++ o) ++ oj ++ [xv]) = icells (([aw] ++ o) ++ oj) ++ [.int .i64 xv] := by unfold icells; simp
              rw [e, List.length_append]
              exact hown6)
            clear hown6 hg hbl
            go_wp2_with fail
            go_roundw
            case rel => exact ⟨j + 1, by omega, by go_num, Lib.hid (by rw [HO2.out]; exact HS6.out)⟩
            case measure => simp [intOf]; omega
          · have HQ2 := Lib.hid (show oj2 = oj ++ [xv] from by rw [HQ.out, e1,e2,e3,e4,e5]; simp)
            have HSZ := Lib.hid (show w1.heap.size ≤ (wr.alloc (.cells #[.int .i64 xt, .int .i64 xk, .int .i64 xcl, .int .i64 xv, .int .i64 xf, .int .i64 xto, .int .i64 xw] 71)).heap.size from HS3.out.1.size)
            have HBY := Lib.hid (show ((([aw] ++ o) ++ oj).length + 1) * 8 ≤ 140737488355328 by
              have h1 := HF.out
              have h2 := HFL.out
              have h3 : k * D.L.length ≤ 8 * 1000 := Nat.mul_le_mul (by omega) hL
              simp only [List.length_append, List.length_cons, List.length_nil]
              omega)
            have HOWN := Lib.hid HS3.out.2
            go_wp2_with (at_builtin; refine wpList_push (news := [.int .i64 xv]) rfl (.tmp 63) (.tmp 67) 45 rfl w1.heap.size i0 (.int .i64 0) 1 8 Try.underlying45 HI.out HZ0.out HZ1.out HZ2.out rfl (by decide) _ (([aw] ++ o) ++ oj).length (icells (([aw] ++ o) ++ oj)) rfl HOWN.out (by show Value.slice (some ⟨wr.heap.size + 1, 0, none⟩) 1 1 = _; simp) rfl (by simp [Value.oneCell']) (by decide) HBY.out HSZ.out ?_; intro v' w6 hown6 hg hbl)
            have HS6 := Lib.hid (show SeenSt w1 w6 v' (([aw] ++ o) ++ oj2) from by
              refine ⟨show Below w1.heap.size w1 w6 from Below.trans HS3.out.1 hbl, ?_⟩
              rw [HQ2.out, ← List.append_assoc]
              have e : icells (([aw] ++ o) ++ oj ++ [xv]) = icells (([aw] ++ o) ++ oj) ++ [.int .i64 xv] := by unfold icells; simp
              rw [e, List.length_append]
              exact hown6)
            clear hown6 hg hbl
            go_wp2_with fail
            go_roundw
            case rel => exact ⟨j + 1, by omega, by go_num, Lib.hid (by rw [HO2.out]; exact HS6.out)⟩
            case measure => simp [intOf]; omega
        · obtain rfl : j = D.L.length := by omega
          clear hjl
          go_wp2_with fail
          go_roundw
          case rel => exact ⟨k + 1, by omega, by go_num, Lib.hid (by have := HS.out; rw [List.take_length] at this; rw [HEN.out, ← List.append_assoc]; exact this)⟩
          case measure => simp [intOf]; omega
    · obtain rfl : k = 8 := by omega
      have HF := Lib.hid (earlyN_few D.L af 8)
      have HEN := Lib.hid (show seenD D.L af aw = ([aw] ++ earlyN D.L af 8) ++ lateL D.L af from rfl)
      generalize earlyN D.L af 8 = o at *
      go_wp2_with fail
      go_loopw [5, 9] (fun u t wx => ∃ (j : Nat), j ≤ D.L.length ∧ t = .int .i64 j ∧ Hid (SeenSt w1 wx u (([aw] ++ o) ++ ((D.L.take j).filter (lateB af)).map DA.v))) (fun _ t _ => D.L.length - (intOf t).toNat)
      case atStart => exact ⟨0, by omega, rfl, Lib.hid (by simpa using HO.out)⟩
      case round =>
        obtain ⟨j, hj, rfl, HS⟩ := hrel
        have HUW := Lib.hid (HU1.out.trans HS.out.1)
        have k4 := (HH.out.up HUW.out).k4
        by_cases hjl : j < D.L.length
        · have hji : (j : Int) < D.L.length := by omega
          have hj0 : (0 : Int) ≤ j := by omega
          have HQ := Lib.hid (filter_take D.L (lateB af) j hjl)
          have HFL := Lib.hid (filter_few D.L (lateB af) j (by omega))
          obtain ⟨b, rfl, h0, h1, h2, h3, h4, h5, h6⟩ := (HR.out.up HUW.out) j hjl
          generalize ((D.L.take j).filter (lateB af)).map DA.v = oj at *
          obtain ⟨oj2, hoj2⟩ : ∃ z, ((D.L.take (j + 1)).filter (lateB af)).map DA.v = z := ⟨_, rfl⟩
          rw [hoj2] at HQ
          have HO2 := Lib.hid hoj2
          clear hoj2
          generalize D.L.getD j da0 = x at *
          obtain ⟨xt, xk, xcl, xv, xf, xto, xw⟩ := x
          dsimp only at h0 h1 h2 h3 h4 h5 h6
          unfold lateB at HQ
          dsimp only at HQ
          have hbx := heap_alloc_new wr (.cells #[.int .i64 xt, .int .i64 xk, .int .i64 xcl, .int .i64 xv, .int .i64 xf, .int .i64 xto, .int .i64 xw] 71)
          have HS3 := Lib.hid (HS.out.alloc (.cells #[.int .i64 xt, .int .i64 xk, .int .i64 xcl, .int .i64 xv, .int .i64 xf, .int .i64 xto, .int .i64 xw] 71))
          have f4 := (HS3.out.1.cell (p := ⟨w.heap.size, 4, none⟩) (cell_lt HF4.out)).trans HF4.out
          have c1 := cell_of_row _ _ 1 _ _ _ hbx
          have c3 := cell_of_row _ _ 3 _ _ _ hbx
          have c4 := cell_of_row _ _ 4 _ _ _ hbx
          simp only [List.getElem?_toArray, List.getElem?_cons_zero, List.getElem?_cons_succ] at c1 c3 c4
          clear hbx
          cases e2 : (xk == 2)
          · have HQ2 := Lib.hid (show oj2 = oj from by rw [HQ.out, e2]; simp)
            go_wp2_with fail
            go_roundw
            case rel => exact ⟨j + 1, by omega, by go_num, Lib.hid (by rw [HO2.out, HQ2.out]; exact HS3.out)⟩
            case measure => simp [intOf]; omega
          · cases e3 : decide (af < xf)
            · have HQ2 := Lib.hid (show oj2 = oj from by rw [HQ.out, e2, e3]; simp)
              go_wp2_with fail
              go_roundw
              case rel => exact ⟨j + 1, by omega, by go_num, Lib.hid (by rw [HO2.out, HQ2.out]; exact HS3.out)⟩
              case measure => simp [intOf]; omega
            · have HQ2 := Lib.hid (show oj2 = oj ++ [xv] from by rw [HQ.out, e2, e3]; simp)
              have HSZ := Lib.hid (show w1.heap.size ≤ (wr.alloc (.cells #[.int .i64 xt, .int .i64 xk, .int .i64 xcl, .int .i64 xv, .int .i64 xf, .int .i64 xto, .int .i64 xw] 71)).heap.size from HS3.out.1.size)
              have HBY := Lib.hid (show ((([aw] ++ o) ++ oj).length + 1) * 8 ≤ 140737488355328 by
                have h1 := HF.out
                have h2 := HFL.out
                simp only [List.length_append, List.length_cons, List.length_nil]
                omega)
              have HOWN := Lib.hid HS3.out.2
              go_wp2_with (at_builtin; refine wpList_push (news := [.int .i64 xv]) rfl (.tmp 96) (.tmp 100) 45 rfl w1.heap.size i0 (.int .i64 0) 1 8 Try.underlying45 HI.out HZ0.out HZ1.out HZ2.out rfl (by decide) _ (([aw] ++ o) ++ oj).length (icells (([aw] ++ o) ++ oj)) rfl HOWN.out (by show Value.slice (some ⟨wr.heap.size + 1, 0, none⟩) 1 1 = _; simp) rfl (by simp [Value.oneCell']) (by decide) HBY.out HSZ.out ?_; intro v' w6 hown6 hg hbl)
              have HS6 := Lib.hid (show SeenSt w1 w6 v' (([aw] ++ o) ++ oj2) from by
                refine ⟨show Below w1.heap.size w1 w6 from Below.trans HS3.out.1 hbl, ?_⟩
                rw [HQ2.out, ← List.append_assoc]
                have e : icells (([aw] ++ o) ++ oj ++ [xv]) = icells (([aw] ++ o) ++ oj) ++ [.int .i64 xv] := by unfold icells; simp
                rw [e, List.length_append]
                exact hown6)
              clear hown6 hg hbl
              go_wp2_with fail
              go_roundw
              case rel =>
                repeat apply Exists.intro
                refine ⟨?_, rfl⟩
                exact ⟨j + 1, by omega, by go_num, Lib.hid (by rw [HO2.out]; exact HS6.out)⟩
              case measure => simp [intOf]; omega
        · obtain rfl : j = D.L.length := by omega
          clear hjl
          go_wp2_with fail
          go_ret
          refine ⟨_, rfl, HUW.out, ?_⟩
          have hs := HS.out.2
          rw [List.take_length] at hs
          rw [HEN.out]
          exact own_le hs (by rw [HS1.out]; omega)

end Go.Proofs.Ytpapcheliohacaa
