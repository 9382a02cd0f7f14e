/-
  The document's Used.
-/
import Derived.Test.YtpapcheliohacaaDocQ
import Derived.Test.YtpapcheliohacaaDocM
import Derived.Test.YtpapcheliohacaaApp
import Derived.Deep.RegionHeld3
import Derived.BigQuiet
set_option linter.unusedVariables false
set_option linter.unusedSimpArgs false
namespace Go.Proofs.Ytpapcheliohacaa
open Go.RowKit

theorem step_appendRowU {P : Program} {ops : Array Oper} {o : Oper} {a : Act} {K : Act → World → Prop} {Q : Exit → Act → World → Prop} {E : Prop} {w : World} (hgd : o.guard = none) (s x : Operand) (t : TypeId)
    (ho : o.op = .call { callee := .builtin .append, args := #[s, x], argTypes := #[t, t] })
    (B : Nat) (e : TypeId) (i : TypeInfo) (z : Value) (bytes : Nat) (ht : P.underlying t = some (.slice e)) (hi : P.info? e = some i) (hz : i.zero = some z)
    (hsize : i.size = 1) (hby : i.bytes = bytes) (hzs : z.cells.size = 1)
    (v : Value) (n : Nat) (xs : List Value) (hs : a.eval s = v) (hown : w.ownsRow B e 1 v n xs)
    (A : Option Addr) (m c : Nat) (f : Nat → Value) (hx : a.eval x = .slice A m c) (hA : A = none → c = 0) (hr : Row w A m f) (h1 : ∀ u ∈ (List.range m).map f, u.oneCell' = true)
    (hb1 : 0 < bytes) (hbytes : (n + m) * bytes ≤ 140737488355328) (hB : B ≤ w.heap.size)
    (h : ∀ v' w', w'.ownsRow B e 1 v' (n + m) (xs ++ (List.range m).map f) → w.grownBy w' v.ownBlock → Below B w w' → K (a.put o.dst v') w') :
    if Region.wanted o (yielded ops a.tmps) = true then Oper.wp P o a w K Q else E := by
  have hw : Region.wanted o (yielded ops a.tmps) = true := by simp [Region.wanted, hgd]
  rw [if_pos hw]
  have h63 : n + m ≤ maxLen := by
    have : n + m ≤ (n + m) * bytes := Nat.le_mul_of_pos_right _ hb1
    unfold maxLen; omega
  cases A with
  | none =>
    have hm : m = 0 := by
      rcases Nat.eq_zero_or_pos m with h0 | h0
      · exact h0
      · obtain ⟨b, off, he, _⟩ := hr 0 h0
        cases he
    have hc := hA rfl
    subst hm
    subst hc
    have hrun := run_append_owned_none (P := P) (w := w) B t o.type e i 1 ht hi v n xs hown
    unfold Oper.wp
    simp [execOp, ho, resolve, invoke, builtin, hs, hx, hrun, Result.andThen]
    exact h v w (by simpa using hown) (World.grownBy.refl w _) (Below.refl _ _)
  | some ad =>
    refine wp_append_own w s x t ho B e i z 1 bytes ht hi hz hsize hby hzs (by decide) v n xs hs hown ad m c ((List.range m).map f) hx (by simp) ?_ h1 h63 hbytes hB ?_
    · intro j u hu
      have hj : j < m := by
        have := (List.getElem?_eq_some_iff.1 hu).1
        simpa using this
      obtain ⟨b, off, he, hc⟩ := hr j hj
      injection he with he
      subst he
      rw [Go.WideShapes.add_plain, hc]
      rw [List.getElem?_map, List.getElem?_range hj] at hu
      exact hu
    · intro v' w' hown' hg _
      exact h v' w' hown' hg (grownBy_below hg hB (own_ge hown))

theorem range_take {out : List Int} {j : Nat} (h : j ≤ out.length) : (List.range j).map (IVal out) = icells (out.take j) := by
  unfold icells
  apply List.ext_getElem
  · simp; omega
  · intro i h1 h2
    simp at h1
    simp only [List.getElem_map, List.getElem_range, List.getElem_take]
    unfold IVal
    rw [getD_lt (by omega)]
theorem range_drop {out : List Int} {j : Nat} (h : j ≤ out.length) : (List.range (out.length - j)).map (fun i => IVal out (j + i)) = icells (out.drop j) := by
  unfold icells
  apply List.ext_getElem
  · simp
  · intro i h1 h2
    simp at h1
    simp only [List.getElem_map, List.getElem_range, List.getElem_drop]
    unfold IVal
    rw [getD_lt (by omega)]
theorem range_all (out : List Int) : (List.range out.length).map (IVal out) = icells out := by
  have := range_take (Nat.le_refl out.length)
  rw [List.take_length] at this
  exact this
/-- A row stays where only a later row grows. -/
theorem row_past {w w1 w' : World} {A : Option Addr} {n g : Nat} {f : Nat → Value} (h : Row w A n f) (u : Up w w1) (hg : w1.grownBy w' (some g)) (hge : w.heap.size ≤ g) : Row w' A n f := fun k hk => by
  obtain ⟨b, off, e, hc⟩ := h k hk
  have hb := cell_lt hc
  exact ⟨b, off, e, (cellE ((hg.block b (Nat.lt_of_lt_of_le hb u.size) (fun e2 => by injection e2 with e2; omega)).trans (u.block b hb))).trans hc⟩
theorem icells_app (a b : List Int) : icells (a ++ b) = icells a ++ icells b := by unfold icells; rw [List.map_append]
theorem ivals_one (f : Nat → Value) (n : Nat) (h : ∀ k, ∃ z : Int, f k = .int .i64 z) : ∀ u ∈ (List.range n).map f, u.oneCell' = true := by
  intro u hu
  obtain ⟨i, _, rfl⟩ := List.mem_map.1 hu
  obtain ⟨z, hz⟩ := h i
  rw [hz]; rfl

set_option maxRecDepth 10000 in
set_option maxHeartbeats 4000000 in
theorem rusedB_any (B r : Nat) (Ls Nv Cv : Value) (ds : BDl) (gl : List (Nat × Value)) (w : World) (H : DocO w B r Ls Nv Cv ds gl) (hd : ds.length ≤ 1000) :
    Calls Try.prog 30 #[.pointer (some ⟨r, 0, none⟩)] w fun e w' => ∃ v, e = .returned v ∧ w'.ownsRow w.heap.size 3 1 v (usedK ds ds.length).length (icells (usedK ds ds.length)) ∧ Up w w' := by
  obtain ⟨A, c, rfl, hrow, _⟩ := own_row (f := fun k => .int .i64 (ds.getD k d0).1) H.own1 (fun k hk => num_at hk)
  have k1 := H.k1
  have HR := Lib.hid hrow
  obtain ⟨i0, hi, hz0, hz1, hz2⟩ := info_parts2
  have HI := Lib.hid hi
  have HZ0 := Lib.hid hz0
  have HZ1 := Lib.hid hz1
  have HZ2 := Lib.hid hz2
  have HK1 := Lib.hid k1
  have hdi : (ds.length : Int) ≤ 1000 := by omega
  clear H hrow hi hz0 hz1 hz2 k1
  go_enter Try.func30, Try.ntmps30
  go_wp2_with fail
  go_loopw [3, 4] (fun o x wr => ∃ k : Nat, k ≤ ds.length ∧ x = .int .i64 k ∧ Hid (wr.ownsRow w.heap.size 3 1 o (usedK ds k).length (icells (usedK ds k)) ∧ Up w wr)) (fun _ x _ => ds.length - (intOf x).toNat)
  case atStart => exact ⟨0, by omega, rfl, Lib.hid ⟨own_nil _ _ _ _, Up.refl _⟩⟩
  case round =>
    obtain ⟨k, hk, rfl, HV⟩ := hrel
    have k1 := (HV.out.2.cell (cell_lt HK1.out)).trans HK1.out
    by_cases hlt : k < ds.length
    · have hki : (k : Int) < ds.length := by omega
      have hk0 : (0 : Int) ≤ k := by omega
      have HLT := Lib.hid hlt
      obtain ⟨b, off, rfl, x0⟩ := HR.out k hlt
      dsimp only at x0
      have x09 := x0
      replace x0 := (HV.out.2.cell (cell_lt x0)).trans x0
      have HUS : Hid (usedK ds (k + 1) = insP (ds.getD k d0).1 (usedK ds k)) := Lib.hid rfl
      have HUL := Lib.hid (usedK_len ds k)
      generalize (ds.getD k d0).1 = x at *
      generalize usedK ds k = out at *
      obtain ⟨Ao, co, rfl, horow, hoc⟩ := own_row (f := IVal out) HV.out.1 (fun j hj => iVal_map hj)
      have HRO := Lib.hid horow
      clear horow hlt
      have HX0 := Lib.hid x0
      have HX9 := Lib.hid x09
      have HK1' := Lib.hid k1
      clear x09
      have hol : (out.length : Int) ≤ 1000 := by have := HUL.out; have := HLT.out; omega
      go_wp2_with fail
      go_loopw [5] (fun y wx => ∃ j : Nat, j ≤ out.length ∧ y = .int .i64 j ∧ Hid (∀ i, i < j → out.getD i 0 < x) ∧ Hid (∃ n, wx = wr.drewN n)) (fun y _ => out.length - (intOf y).toNat)
      case atStart => exact ⟨0, by omega, rfl, Lib.hid (fun i hi => absurd hi (Nat.not_lt_zero i)), Lib.hid ⟨0, rfl⟩⟩
      case round =>
        obtain ⟨j, hj, rfl, HJ, HN⟩ := hrel
        obtain ⟨nn, rfl⟩ := HN.out
        by_cases hjl : j < out.length
        · have hji : (j : Int) < out.length := by omega
          have hj0 : (0 : Int) ≤ j := by omega
          obtain ⟨b1, off1, rfl, y0⟩ := HRO.out j hjl
          unfold IVal at y0
          have HJL := Lib.hid hjl
          have HLE := Lib.hid (fun (h : ¬ out.getD j 0 < x) => lead_eq (k := j) hj HJ.out (.inr h))
          have HJ1 : Hid (out.getD j 0 < x → ∀ i, i < j + 1 → out.getD i 0 < x) := Lib.hid (fun h i hi => by
            by_cases e : i = j
            · rw [e]; exact h
            · exact HJ.out i (by omega))
          generalize out.getD j 0 = q at *
          clear hjl
          by_cases hqx : q < x
          · have hd1 : decide (q < x) = true := decide_eq_true hqx
            have HJ2 := Lib.hid (HJ1.out hqx)
            clear hqx HJ1 HLE
            go_wp2_with fail
            go_quiet (fail)
            go_wp2_with fail
            go_roundw
            case rel => exact ⟨j + 1, HJL.out, by go_num, HJ2, Lib.hid ⟨_, rfl⟩⟩
            case measure => simp [intOf]; omega
          · have hd1 : decide (q < x) = false := decide_eq_false hqx
            have HLQ := Lib.hid (HLE.out hqx)
            clear hqx HJ1 HLE
            go_wp2_with fail
            go_quiet (fail)
            go_wp2_with fail
            have hUW : Up wr ((wr.drewN nn).drewN nq) := ((Up.refl wr).drewN nn).drewN nq
            have HVW := Lib.hid (And.intro (own_same HV.out.1 fun k e => hUW.block k (HV.out.1.lt k e).2) (And.intro (HV.out.2.trans hUW) (HRO.out.up hUW)))
            have hSS : ((wr.drewN nn).drewN nq).drew.cell? ⟨r, 1, none⟩ = some (.slice (some ⟨b, off, none⟩) ds.length c) ∧ ((wr.drewN nn).drewN nq).drew.cell? ⟨b, off + k, none⟩ = some (.int .i64 x) := ⟨HK1'.out, HX0.out⟩
            generalize (wr.drewN nn).drewN nq = W at *
            have HXW := Lib.hid hSS
            have HBL := Lib.hid (show out.length ≤ 1000 ∧ j ≤ out.length from ⟨by have := HUL.out; have := HLT.out; omega, hj⟩)
            refine wp_region_held_drew (S := fun w' => w'.cell? ⟨r, 1, none⟩ = some (.slice (some ⟨b, off, none⟩) ds.length c) ∧ w'.cell? ⟨b, off + k, none⟩ = some (.int .i64 x)) (by kernel_rfl) hSS (fun hS0 => ?_)
            refine wpAnyH_take (i := 0) (v := ?_) rfl (by kernel_rfl) (by kernel_rfl) (by kernel_rfl) (fun _ _ _ h => h) (Or.inl ⟨by kernel_rfl, ?_⟩) hS0 ?_
            rotate_left
            · intro w hSw
              try dsimp only at hSw
              go_simp
              try (with_reducible rfl)
            try simp only [Act.put, List.setIfInBounds_toArray, List.set_cons_zero, List.set_cons_succ]
            refine wpAnyH_take (i := 1) (v := ?_) rfl (by kernel_rfl) (by kernel_rfl) (by kernel_rfl) (fun _ _ _ h => h) (Or.inl ⟨by kernel_rfl, ?_⟩) hS0 ?_
            rotate_left
            · intro w hSw
              try dsimp only at hSw
              go_simp
              try (with_reducible rfl)
            try simp only [Act.put, List.setIfInBounds_toArray, List.set_cons_zero, List.set_cons_succ]
            refine wpAnyH_take (i := 2) (v := ?_) rfl (by kernel_rfl) (by kernel_rfl) (by kernel_rfl) (fun _ _ _ h => h) (Or.inl ⟨by kernel_rfl, ?_⟩) hS0 ?_
            rotate_left
            · intro w hSw
              try dsimp only at hSw
              go_simp
              try (with_reducible rfl)
            try simp only [Act.put, List.setIfInBounds_toArray, List.set_cons_zero, List.set_cons_succ]
            refine wpAnyH_take (i := 3) (v := ?_) rfl (by kernel_rfl) (by kernel_rfl) (by kernel_rfl) (fun _ _ _ h => h) (Or.inl ⟨by kernel_rfl, ?_⟩) hS0 ?_
            rotate_left
            · intro w hSw
              try dsimp only at hSw
              go_simp
              try (with_reducible rfl)
            try simp only [Act.put, List.setIfInBounds_toArray, List.set_cons_zero, List.set_cons_succ]
            refine wpAnyH_take (i := 4) (v := ?_) rfl (by kernel_rfl) (by kernel_rfl) (by kernel_rfl) (fun _ _ _ h => h) (Or.inl ⟨by kernel_rfl, ?_⟩) hS0 ?_
            rotate_left
            · intro w hSw
              try dsimp only at hSw
              go_simp
              try (with_reducible rfl)
            try simp only [Act.put, List.setIfInBounds_toArray, List.set_cons_zero, List.set_cons_succ]
            refine wpAnyH_take (i := 5) (v := ?_) rfl (by kernel_rfl) (by kernel_rfl) (by kernel_rfl) (fun _ _ _ h => h) (Or.inl ⟨by kernel_rfl, ?_⟩) hS0 ?_
            rotate_left
            · intro w hSw
              try dsimp only at hSw
              go_simp
              try (with_reducible rfl)
            try simp only [Act.put, List.setIfInBounds_toArray, List.set_cons_zero, List.set_cons_succ]
            refine wpAnyH_take (i := 6) (v := ?_) rfl (by kernel_rfl) (by kernel_rfl) (by kernel_rfl) (fun _ _ _ h => h) (Or.inl ⟨by kernel_rfl, ?_⟩) hS0 ?_
            rotate_left
            · intro w hSw
              try dsimp only at hSw
              go_simp
              try (with_reducible rfl)
            try simp only [Act.put, List.setIfInBounds_toArray, List.set_cons_zero, List.set_cons_succ]
            refine wpAnyH_take (i := 8) (v := ?_) rfl (by kernel_rfl) (by kernel_rfl) (by kernel_rfl) (fun _ _ _ h => h) (Or.inl ⟨by kernel_rfl, ?_⟩) hS0 ?_
            rotate_left
            · intro w hSw
              try dsimp only at hSw
              go_simp
              try (with_reducible rfl)
            try simp only [Act.put, List.setIfInBounds_toArray, List.set_cons_zero, List.set_cons_succ]
            refine wpAnyH_take (i := 9) (v := ?_) rfl (by kernel_rfl) (by kernel_rfl) (by kernel_rfl) (fun _ _ _ h => h) (Or.inl ⟨by kernel_rfl, ?_⟩) hS0 ?_
            rotate_left
            · intro w hSw
              try dsimp only at hSw
              go_simp
              try (with_reducible rfl)
            try simp only [Act.put, List.setIfInBounds_toArray, List.set_cons_zero, List.set_cons_succ]
            refine wpAnyH_take (i := 10) (v := ?_) rfl (by kernel_rfl) (by kernel_rfl) (by kernel_rfl) (fun _ _ _ h => h) (Or.inl ⟨by kernel_rfl, ?_⟩) hS0 ?_
            rotate_left
            · intro w hSw
              try dsimp only at hSw
              go_simp
              try (with_reducible rfl)
            try simp only [Act.put, List.setIfInBounds_toArray, List.set_cons_zero, List.set_cons_succ]
            refine wpAnyH_ready (rs := [7]) (by kernel_rfl) (by simp) ?_
            refine AllReadyH.cons rfl (fun K hK => ?_) AllReadyH.nil
            go_simp
            have hua : Up W (W.alloc (.cells #[.int .i64 x] 3)) := (Up.refl W).alloc _
            have huad : Up W.drew (W.alloc (.cells #[.int .i64 x] 3)).drew := (Up.refl W.drew).alloc (.cells #[.int .i64 x] 3)
            refine hK.out _ _ (And.intro ((huad.cell (cell_lt hS0.1)).trans hS0.1) ((huad.cell (cell_lt hS0.2)).trans hS0.2)) (fun hS1 => ?_)
            clear hK K
            try simp only [Act.put, List.setIfInBounds_toArray, List.set_cons_zero, List.set_cons_succ]
            have hcj : ∃ A', (if co = j then some (⟨b1, off1, none⟩ : Addr) else some ⟨b1, off1 + j, none⟩) = A' ∧ A' ≠ none ∧ (j < out.length → A' = some ⟨b1, off1 + j, none⟩) := by
              by_cases e : co = j
              · rw [if_pos e]; exact ⟨_, rfl, by simp, fun h => by omega⟩
              · rw [if_neg e]; exact ⟨_, rfl, by simp, fun _ => rfl⟩
            obtain ⟨A', hA', hA1, hA2⟩ := hcj
            rw [hA']
            have HRA := Lib.hid (show (A' = none → co - j = 0) ∧ Row W A' (out.length - j) (fun i => IVal out (j + i)) from ⟨fun e => absurd e hA1, fun i hi => by
              obtain ⟨b2, off2, e2, hc2⟩ := HVW.out.2.2 (j + i) (by omega)
              injection e2 with e2
              injection e2 with e3 e4
              subst e3
              subst e4
              exact ⟨b1, off1 + j, hA2 (by omega), by rw [Nat.add_assoc]; exact hc2⟩⟩)
            have HA9 := Lib.hid (show (some (⟨b1, off1, none⟩ : Addr)) = none → co = 0 from fun e => by cases e)
            clear hA' hA1 hA2
            refine wpAnyH_ready (rs := [11]) (by kernel_rfl) (by simp) ?_
            refine AllReadyH.cons rfl (fun K hK => ?_) AllReadyH.nil
            refine step_appendRowU rfl (.tmp 43) (.tmp 46) 45 rfl w.heap.size 3 i0 (.int .i64 0) 8 Try.underlying45 HI.out HZ0.out HZ1.out HZ2.out rfl _ 1 (icells [x]) rfl ⟨rfl, .inr ⟨W.heap.size, 1, _, rfl, HVW.out.2.1.size, heap_alloc_new W _, Nat.le_refl _, by unfold maxLen; decide, rfl, rfl⟩⟩ A' (out.length - j) (co - j) (fun i => IVal out (j + i)) rfl HRA.out.1 (HRA.out.2.up hua.drew) (ivals_one _ _ (fun k => ⟨_, rfl⟩)) (by decide) (by have := HBL.out; omega) (Nat.le_trans HVW.out.2.1.size hua.size) ?_
            intro v6 w6 hown6 hg6 hbl6
            rw [range_drop HBL.out.2, ← icells_app] at hown6
            have HOW6 := Lib.hid hown6
            have HU6 := Lib.hid (show Up w w6 from Below.trans (HVW.out.2.1.trans hua.drew) hbl6)
            have hk6 := And.intro ((HU6.out.cell (cell_lt HK1.out)).trans HK1.out) ((HU6.out.cell (cell_lt HX9.out)).trans HX9.out)
            have HRO6 := Lib.hid (show Row w6 (some ⟨b1, off1, none⟩) j (IVal out) from fun i hi => row_past HVW.out.2.2 hua.drew hg6 (Nat.le_refl _) i (Nat.lt_of_lt_of_le hi HBL.out.2))
            clear hown6
            refine hK.out _ _ hk6 (fun hS2 => ?_)
            clear hK K
            try simp only [Act.put, List.setIfInBounds_toArray, List.set_cons_zero, List.set_cons_succ]
            refine wpAnyH_take (i := 12) (v := ?_) rfl (by kernel_rfl) (by kernel_rfl) (by kernel_rfl) (fun _ _ _ h => h) (Or.inl ⟨by kernel_rfl, ?_⟩) hS2 ?_
            rotate_left
            · intro w hSw
              try dsimp only at hSw
              go_simp
              try (with_reducible rfl)
            try simp only [Act.put, List.setIfInBounds_toArray, List.set_cons_zero, List.set_cons_succ]
            refine wpAnyH_done (by kernel_rfl) ?_ _
            try simp only [Act.put, List.setIfInBounds_toArray, List.set_cons_zero, List.set_cons_succ, List.getElem_toArray, List.getElem_cons_succ, List.getElem_cons_zero]
            clear hS0 hS1 hS2 hk6 hSS
            have HRL := Lib.hid (show ([x] ++ out.drop j).length = 1 + (out.length - j) by simp; omega)
            obtain ⟨A6, c6, rfl, hr6, hc6⟩ := own_row (f := IVal ([x] ++ out.drop j)) HOW6.out (fun i hi => iVal_map (by rw [HRL.out]; exact hi))
            have HR6 := Lib.hid (And.intro hr6 (show A6 = none → c6 = 0 from fun e => by
              obtain ⟨b6, o6, e6, _⟩ := hr6 0 (by omega)
              rw [e] at e6; cases e6))
            have HUA6 := Lib.hid (show Up w6 (w6.alloc (.cells #[] 3)) from (Up.refl w6).alloc _)
            have HOE := Lib.hid (show (w6.alloc (.cells #[] 3)).ownsRow w.heap.size 3 1 (.slice (some ⟨w6.heap.size, 0, none⟩) 0 0) 0 [] from ⟨rfl, .inr ⟨w6.heap.size, 0, _, rfl, HU6.out.size, heap_alloc_new w6 _, Nat.le_refl _, by unfold maxLen; decide, rfl, rfl⟩⟩)
            clear hr6 hc6 hg6 hbl6 hua
            go_wp2_with (at_builtin; first
              | (refine wpList_appendRow rfl (.tmp 48) (.tmp 51) 45 rfl w.heap.size 3 i0 (.int .i64 0) 8 Try.underlying45 HI.out HZ0.out HZ1.out HZ2.out rfl _ 0 [] rfl HOE.out (some ⟨b1, off1, none⟩) j co (IVal out) rfl HA9.out (HRO6.out.up HUA6.out) (ivals_one _ _ (fun k => ⟨_, rfl⟩)) (by decide) (by have := HBL.out; omega) (Nat.le_trans HU6.out.size HUA6.out.size) ?_; intro v7 w7 hown7 hg7 hbl7; have HOW7 := Lib.hid hown7; have HU7 := Lib.hid (show Up w w7 from Below.trans (HU6.out.trans HUA6.out) hbl7); have HR7 := Lib.hid (row_past HR6.out.1 HUA6.out hg7 (Nat.le_refl _)); clear hown7 hg7 hbl7)
              | (refine wpList_appendRow rfl (.tmp 52) (.tmp 53) 45 rfl w.heap.size 3 i0 (.int .i64 0) 8 Try.underlying45 HI.out HZ0.out HZ1.out HZ2.out rfl _ (0 + j) ([] ++ (List.range j).map (IVal out)) rfl HOW7.out A6 (1 + (out.length - j)) c6 (IVal ([x] ++ out.drop j)) rfl HR6.out.2 HR7.out (ivals_one _ _ (fun k => ⟨_, rfl⟩)) (by decide) (by have := HBL.out; omega) HU7.out.size ?_; intro v8 w8 hown8 hg8 hbl8; have HOW8 := Lib.hid hown8; have HU8 := Lib.hid (show Up w w8 from Below.trans HU7.out hbl8); clear hown8 hg8 hbl8))
            have HFIN := Lib.hid (show w8.ownsRow w.heap.size 3 1 v8 (usedK ds (k + 1)).length (icells (usedK ds (k + 1))) from by
              have h := HOW8.out
              rw [List.nil_append, range_take HBL.out.2, ← HRL.out, range_all, ← icells_app] at h
              have e : usedK ds (k + 1) = out.take j ++ ([x] ++ out.drop j) := by rw [HUS.out]; unfold insP; rw [HLQ.out]
              rw [e, List.length_append, List.length_take, Nat.min_eq_left HBL.out.2]
              rw [Nat.zero_add] at h
              exact h)
            go_wp2_with fail
            go_roundw
            case rel => exact ⟨k + 1, HLT.out, by go_num, Lib.hid ⟨HFIN.out, HU8.out⟩⟩
            case measure => simp [intOf]; omega
        · have hje : j = out.length := by omega
          have HLQ := Lib.hid (lead_eq (x := x) (k := j) hj HJ.out (.inl hje))
          have hd0 : decide (j < out.length) = false := decide_eq_false (by omega)
          have hj0 : (0 : Int) ≤ j := by omega
          clear hjl
          rcases HV.out.1.2 with ⟨hnil, hm0⟩ | ⟨g1, cap1, cur1, hsl, _⟩
          · injection hnil with hn1 hn2 hn3
            subst hn1
            subst hn3
            have hj00 : j = 0 := by omega
            obtain rfl : out = [] := List.eq_nil_of_length_eq_zero hm0
            subst hj00
            clear hn2 hm0 hje hoc hol hj hd0
            simp only [List.length_nil] at *
            go_wp2_with fail
            go_quiet (fail)
            go_wp2_with fail
            have hUW : Up wr ((wr.drewN nn).drewN nq) := ((Up.refl wr).drewN nn).drewN nq
            have HVW := Lib.hid (HV.out.2.trans hUW)
            have hSS : ((wr.drewN nn).drewN nq).drew.cell? ⟨r, 1, none⟩ = some (.slice (some ⟨b, off, none⟩) ds.length c) ∧ ((wr.drewN nn).drewN nq).drew.cell? ⟨b, off + k, none⟩ = some (.int .i64 x) := ⟨HK1'.out, HX0.out⟩
            generalize (wr.drewN nn).drewN nq = W at *
            refine wp_region_held_drew (S := fun w' => w'.cell? ⟨r, 1, none⟩ = some (.slice (some ⟨b, off, none⟩) ds.length c) ∧ w'.cell? ⟨b, off + k, none⟩ = some (.int .i64 x)) (by kernel_rfl) hSS (fun hS0 => ?_)
            refine wpAnyH_take (i := 0) (v := ?_) rfl (by kernel_rfl) (by kernel_rfl) (by kernel_rfl) (fun _ _ _ h => h) (Or.inl ⟨by kernel_rfl, ?_⟩) hS0 ?_
            rotate_left
            · intro w hSw
              try dsimp only at hSw
              go_simp
              try (with_reducible rfl)
            try simp only [Act.put, List.setIfInBounds_toArray, List.set_cons_zero, List.set_cons_succ]
            refine wpAnyH_take (i := 1) (v := ?_) rfl (by kernel_rfl) (by kernel_rfl) (by kernel_rfl) (fun _ _ _ h => h) (Or.inl ⟨by kernel_rfl, ?_⟩) hS0 ?_
            rotate_left
            · intro w hSw
              try dsimp only at hSw
              go_simp
              try (with_reducible rfl)
            try simp only [Act.put, List.setIfInBounds_toArray, List.set_cons_zero, List.set_cons_succ]
            refine wpAnyH_take (i := 2) (v := ?_) rfl (by kernel_rfl) (by kernel_rfl) (by kernel_rfl) (fun _ _ _ h => h) (Or.inl ⟨by kernel_rfl, ?_⟩) hS0 ?_
            rotate_left
            · intro w hSw
              try dsimp only at hSw
              go_simp
              try (with_reducible rfl)
            try simp only [Act.put, List.setIfInBounds_toArray, List.set_cons_zero, List.set_cons_succ]
            refine wpAnyH_take (i := 3) (v := ?_) rfl (by kernel_rfl) (by kernel_rfl) (by kernel_rfl) (fun _ _ _ h => h) (Or.inl ⟨by kernel_rfl, ?_⟩) hS0 ?_
            rotate_left
            · intro w hSw
              try dsimp only at hSw
              go_simp
              try (with_reducible rfl)
            try simp only [Act.put, List.setIfInBounds_toArray, List.set_cons_zero, List.set_cons_succ]
            refine wpAnyH_take (i := 4) (v := ?_) rfl (by kernel_rfl) (by kernel_rfl) (by kernel_rfl) (fun _ _ _ h => h) (Or.inl ⟨by kernel_rfl, ?_⟩) hS0 ?_
            rotate_left
            · intro w hSw
              try dsimp only at hSw
              go_simp
              try (with_reducible rfl)
            try simp only [Act.put, List.setIfInBounds_toArray, List.set_cons_zero, List.set_cons_succ]
            refine wpAnyH_take (i := 5) (v := ?_) rfl (by kernel_rfl) (by kernel_rfl) (by kernel_rfl) (fun _ _ _ h => h) (Or.inl ⟨by kernel_rfl, ?_⟩) hS0 ?_
            rotate_left
            · intro w hSw
              try dsimp only at hSw
              go_simp
              try (with_reducible rfl)
            try simp only [Act.put, List.setIfInBounds_toArray, List.set_cons_zero, List.set_cons_succ]
            refine wpAnyH_take (i := 6) (v := ?_) rfl (by kernel_rfl) (by kernel_rfl) (by kernel_rfl) (fun _ _ _ h => h) (Or.inl ⟨by kernel_rfl, ?_⟩) hS0 ?_
            rotate_left
            · intro w hSw
              try dsimp only at hSw
              go_simp
              try (with_reducible rfl)
            try simp only [Act.put, List.setIfInBounds_toArray, List.set_cons_zero, List.set_cons_succ]
            refine wpAnyH_take (i := 8) (v := ?_) rfl (by kernel_rfl) (by kernel_rfl) (by kernel_rfl) (fun _ _ _ h => h) (Or.inl ⟨by kernel_rfl, ?_⟩) hS0 ?_
            rotate_left
            · intro w hSw
              try dsimp only at hSw
              go_simp
              try (with_reducible rfl)
            try simp only [Act.put, List.setIfInBounds_toArray, List.set_cons_zero, List.set_cons_succ]
            refine wpAnyH_take (i := 9) (v := ?_) rfl (by kernel_rfl) (by kernel_rfl) (by kernel_rfl) (fun _ _ _ h => h) (Or.inl ⟨by kernel_rfl, ?_⟩) hS0 ?_
            rotate_left
            · intro w hSw
              try dsimp only at hSw
              go_simp
              try (with_reducible rfl)
            try simp only [Act.put, List.setIfInBounds_toArray, List.set_cons_zero, List.set_cons_succ]
            refine wpAnyH_take (i := 10) (v := ?_) rfl (by kernel_rfl) (by kernel_rfl) (by kernel_rfl) (fun _ _ _ h => h) (Or.inl ⟨by kernel_rfl, ?_⟩) hS0 ?_
            rotate_left
            · intro w hSw
              try dsimp only at hSw
              go_simp
              try (with_reducible rfl)
            try simp only [Act.put, List.setIfInBounds_toArray, List.set_cons_zero, List.set_cons_succ]
            refine wpAnyH_ready (rs := [7]) (by kernel_rfl) (by simp) ?_
            refine AllReadyH.cons rfl (fun K hK => ?_) AllReadyH.nil
            go_simp
            have hua : Up W (W.alloc (.cells #[.int .i64 x] 3)) := (Up.refl W).alloc _
            have huad : Up W.drew (W.alloc (.cells #[.int .i64 x] 3)).drew := (Up.refl W.drew).alloc (.cells #[.int .i64 x] 3)
            refine hK.out _ _ (And.intro ((huad.cell (cell_lt hS0.1)).trans hS0.1) ((huad.cell (cell_lt hS0.2)).trans hS0.2)) (fun hS1 => ?_)
            clear hK K
            try simp only [Act.put, List.setIfInBounds_toArray, List.set_cons_zero, List.set_cons_succ]
            refine wpAnyH_ready (rs := [11]) (by kernel_rfl) (by simp) ?_
            refine AllReadyH.cons rfl (fun K hK => ?_) AllReadyH.nil
            refine step_appendRowU rfl (.tmp 43) (.tmp 46) 45 rfl w.heap.size 3 i0 (.int .i64 0) 8 Try.underlying45 HI.out HZ0.out HZ1.out HZ2.out rfl _ 1 (icells [x]) rfl ⟨rfl, .inr ⟨W.heap.size, 1, _, rfl, HVW.out.size, heap_alloc_new W _, Nat.le_refl _, by unfold maxLen; decide, rfl, rfl⟩⟩ none 0 0 (fun _ => .int .i64 0) rfl (fun _ => rfl) (Row.nil _ _ _) (fun u hu => by simp at hu) (by decide) (by decide) (Nat.le_trans HVW.out.size hua.size) ?_
            intro v6 w6 hown6 hg6 hbl6
            rw [List.range_zero, List.map_nil, List.append_nil] at hown6
            have HOW6 := Lib.hid (show w6.ownsRow w.heap.size 3 1 v6 1 (icells [x]) from hown6)
            have HU6 := Lib.hid (show Up w w6 from Below.trans (HVW.out.trans hua.drew) hbl6)
            have hk6 := And.intro ((HU6.out.cell (cell_lt HK1.out)).trans HK1.out) ((HU6.out.cell (cell_lt HX9.out)).trans HX9.out)
            clear hown6
            refine hK.out _ _ hk6 (fun hS2 => ?_)
            clear hK K
            try simp only [Act.put, List.setIfInBounds_toArray, List.set_cons_zero, List.set_cons_succ]
            refine wpAnyH_take (i := 12) (v := ?_) rfl (by kernel_rfl) (by kernel_rfl) (by kernel_rfl) (fun _ _ _ h => h) (Or.inl ⟨by kernel_rfl, ?_⟩) hS2 ?_
            rotate_left
            · intro w hSw
              try dsimp only at hSw
              go_simp
              try (with_reducible rfl)
            try simp only [Act.put, List.setIfInBounds_toArray, List.set_cons_zero, List.set_cons_succ]
            refine wpAnyH_done (by kernel_rfl) ?_ _
            try simp only [Act.put, List.setIfInBounds_toArray, List.set_cons_zero, List.set_cons_succ, List.getElem_toArray, List.getElem_cons_succ, List.getElem_cons_zero]
            clear hS0 hS1 hS2 hk6 hSS
            obtain ⟨A6, c6, rfl, hr6, hc6⟩ := own_row (f := IVal [x]) HOW6.out (fun i hi => iVal_map (by simpa using hi))
            have HR6 := Lib.hid (And.intro hr6 (show A6 = none → c6 = 0 from fun e => by
              obtain ⟨b6, o6, e6, _⟩ := hr6 0 (by omega)
              rw [e] at e6; cases e6))
            have HUA6 := Lib.hid (show Up w6 (w6.alloc (.cells #[] 3)) from (Up.refl w6).alloc _)
            have HOE := Lib.hid (show (w6.alloc (.cells #[] 3)).ownsRow w.heap.size 3 1 (.slice (some ⟨w6.heap.size, 0, none⟩) 0 0) 0 [] from ⟨rfl, .inr ⟨w6.heap.size, 0, _, rfl, HU6.out.size, heap_alloc_new w6 _, Nat.le_refl _, by unfold maxLen; decide, rfl, rfl⟩⟩)
            clear hr6 hc6 hg6 hbl6 hua
            go_wp2_with (at_builtin; first
              | (refine wpList_appendRow rfl (.tmp 48) (.tmp 51) 45 rfl w.heap.size 3 i0 (.int .i64 0) 8 Try.underlying45 HI.out HZ0.out HZ1.out HZ2.out rfl _ 0 [] rfl HOE.out none 0 0 (fun _ => .int .i64 0) rfl (fun _ => rfl) (Row.nil _ _ _) (fun u hu => by simp at hu) (by decide) (by decide) (Nat.le_trans HU6.out.size HUA6.out.size) ?_; intro v7 w7 hown7 hg7 hbl7; have HOW7 := Lib.hid hown7; have HU7 := Lib.hid (show Up w w7 from Below.trans (HU6.out.trans HUA6.out) hbl7); have HR7 := Lib.hid (row_past HR6.out.1 HUA6.out hg7 (Nat.le_refl _)); clear hown7 hg7 hbl7)
              | (refine wpList_appendRow rfl (.tmp 52) (.tmp 53) 45 rfl w.heap.size 3 i0 (.int .i64 0) 8 Try.underlying45 HI.out HZ0.out HZ1.out HZ2.out rfl _ (0 + 0) ([] ++ (List.range 0).map (fun _ => Value.int .i64 0)) rfl HOW7.out A6 1 c6 (IVal [x]) rfl HR6.out.2 HR7.out (ivals_one _ _ (fun k => ⟨_, rfl⟩)) (by decide) (by decide) HU7.out.size ?_; intro v8 w8 hown8 hg8 hbl8; have HOW8 := Lib.hid hown8; have HU8 := Lib.hid (show Up w w8 from Below.trans HU7.out hbl8); clear hown8 hg8 hbl8))
            have HFIN := Lib.hid (show w8.ownsRow w.heap.size 3 1 v8 (usedK ds (k + 1)).length (icells (usedK ds (k + 1))) from by
              have e : usedK ds (k + 1) = [x] := HUS.out
              rw [e]
              exact HOW8.out)
            go_wp2_with fail
            go_roundw
            case rel => exact ⟨k + 1, HLT.out, by go_num, Lib.hid ⟨HFIN.out, HU8.out⟩⟩
            case measure => simp [intOf]; omega
          · injection hsl with hn1 hn2 hn3
            obtain ⟨b1, off1, hAo⟩ : ∃ (b1 off1 : Nat), Ao = some ⟨b1, off1, none⟩ := ⟨g1, 0, hn1⟩
            clear hn1 hn2 hn3 hje
            subst hAo
            go_wp2_with fail
            go_quiet (fail)
            go_wp2_with fail
            have hUW : Up wr ((wr.drewN nn).drewN nq) := ((Up.refl wr).drewN nn).drewN nq
            have HVW := Lib.hid (And.intro (own_same HV.out.1 fun k e => hUW.block k (HV.out.1.lt k e).2) (And.intro (HV.out.2.trans hUW) (HRO.out.up hUW)))
            have hSS : ((wr.drewN nn).drewN nq).drew.cell? ⟨r, 1, none⟩ = some (.slice (some ⟨b, off, none⟩) ds.length c) ∧ ((wr.drewN nn).drewN nq).drew.cell? ⟨b, off + k, none⟩ = some (.int .i64 x) := ⟨HK1'.out, HX0.out⟩
            generalize (wr.drewN nn).drewN nq = W at *
            have HXW := Lib.hid hSS
            have HBL := Lib.hid (show out.length ≤ 1000 ∧ j ≤ out.length from ⟨by have := HUL.out; have := HLT.out; omega, hj⟩)
            refine wp_region_held_drew (S := fun w' => w'.cell? ⟨r, 1, none⟩ = some (.slice (some ⟨b, off, none⟩) ds.length c) ∧ w'.cell? ⟨b, off + k, none⟩ = some (.int .i64 x)) (by kernel_rfl) hSS (fun hS0 => ?_)
            refine wpAnyH_take (i := 0) (v := ?_) rfl (by kernel_rfl) (by kernel_rfl) (by kernel_rfl) (fun _ _ _ h => h) (Or.inl ⟨by kernel_rfl, ?_⟩) hS0 ?_
            rotate_left
            · intro w hSw
              try dsimp only at hSw
              go_simp
              try (with_reducible rfl)
            try simp only [Act.put, List.setIfInBounds_toArray, List.set_cons_zero, List.set_cons_succ]
            refine wpAnyH_take (i := 1) (v := ?_) rfl (by kernel_rfl) (by kernel_rfl) (by kernel_rfl) (fun _ _ _ h => h) (Or.inl ⟨by kernel_rfl, ?_⟩) hS0 ?_
            rotate_left
            · intro w hSw
              try dsimp only at hSw
              go_simp
              try (with_reducible rfl)
            try simp only [Act.put, List.setIfInBounds_toArray, List.set_cons_zero, List.set_cons_succ]
            refine wpAnyH_take (i := 2) (v := ?_) rfl (by kernel_rfl) (by kernel_rfl) (by kernel_rfl) (fun _ _ _ h => h) (Or.inl ⟨by kernel_rfl, ?_⟩) hS0 ?_
            rotate_left
            · intro w hSw
              try dsimp only at hSw
              go_simp
              try (with_reducible rfl)
            try simp only [Act.put, List.setIfInBounds_toArray, List.set_cons_zero, List.set_cons_succ]
            refine wpAnyH_take (i := 3) (v := ?_) rfl (by kernel_rfl) (by kernel_rfl) (by kernel_rfl) (fun _ _ _ h => h) (Or.inl ⟨by kernel_rfl, ?_⟩) hS0 ?_
            rotate_left
            · intro w hSw
              try dsimp only at hSw
              go_simp
              try (with_reducible rfl)
            try simp only [Act.put, List.setIfInBounds_toArray, List.set_cons_zero, List.set_cons_succ]
            refine wpAnyH_take (i := 4) (v := ?_) rfl (by kernel_rfl) (by kernel_rfl) (by kernel_rfl) (fun _ _ _ h => h) (Or.inl ⟨by kernel_rfl, ?_⟩) hS0 ?_
            rotate_left
            · intro w hSw
              try dsimp only at hSw
              go_simp
              try (with_reducible rfl)
            try simp only [Act.put, List.setIfInBounds_toArray, List.set_cons_zero, List.set_cons_succ]
            refine wpAnyH_take (i := 5) (v := ?_) rfl (by kernel_rfl) (by kernel_rfl) (by kernel_rfl) (fun _ _ _ h => h) (Or.inl ⟨by kernel_rfl, ?_⟩) hS0 ?_
            rotate_left
            · intro w hSw
              try dsimp only at hSw
              go_simp
              try (with_reducible rfl)
            try simp only [Act.put, List.setIfInBounds_toArray, List.set_cons_zero, List.set_cons_succ]
            refine wpAnyH_take (i := 6) (v := ?_) rfl (by kernel_rfl) (by kernel_rfl) (by kernel_rfl) (fun _ _ _ h => h) (Or.inl ⟨by kernel_rfl, ?_⟩) hS0 ?_
            rotate_left
            · intro w hSw
              try dsimp only at hSw
              go_simp
              try (with_reducible rfl)
            try simp only [Act.put, List.setIfInBounds_toArray, List.set_cons_zero, List.set_cons_succ]
            refine wpAnyH_take (i := 8) (v := ?_) rfl (by kernel_rfl) (by kernel_rfl) (by kernel_rfl) (fun _ _ _ h => h) (Or.inl ⟨by kernel_rfl, ?_⟩) hS0 ?_
            rotate_left
            · intro w hSw
              try dsimp only at hSw
              go_simp
              try (with_reducible rfl)
            try simp only [Act.put, List.setIfInBounds_toArray, List.set_cons_zero, List.set_cons_succ]
            refine wpAnyH_take (i := 9) (v := ?_) rfl (by kernel_rfl) (by kernel_rfl) (by kernel_rfl) (fun _ _ _ h => h) (Or.inl ⟨by kernel_rfl, ?_⟩) hS0 ?_
            rotate_left
            · intro w hSw
              try dsimp only at hSw
              go_simp
              try (with_reducible rfl)
            try simp only [Act.put, List.setIfInBounds_toArray, List.set_cons_zero, List.set_cons_succ]
            refine wpAnyH_take (i := 10) (v := ?_) rfl (by kernel_rfl) (by kernel_rfl) (by kernel_rfl) (fun _ _ _ h => h) (Or.inl ⟨by kernel_rfl, ?_⟩) hS0 ?_
            rotate_left
            · intro w hSw
              try dsimp only at hSw
              go_simp
              try (with_reducible rfl)
            try simp only [Act.put, List.setIfInBounds_toArray, List.set_cons_zero, List.set_cons_succ]
            refine wpAnyH_ready (rs := [7]) (by kernel_rfl) (by simp) ?_
            refine AllReadyH.cons rfl (fun K hK => ?_) AllReadyH.nil
            go_simp
            have hua : Up W (W.alloc (.cells #[.int .i64 x] 3)) := (Up.refl W).alloc _
            have huad : Up W.drew (W.alloc (.cells #[.int .i64 x] 3)).drew := (Up.refl W.drew).alloc (.cells #[.int .i64 x] 3)
            refine hK.out _ _ (And.intro ((huad.cell (cell_lt hS0.1)).trans hS0.1) ((huad.cell (cell_lt hS0.2)).trans hS0.2)) (fun hS1 => ?_)
            clear hK K
            try simp only [Act.put, List.setIfInBounds_toArray, List.set_cons_zero, List.set_cons_succ]
            have hcj : ∃ A', (if co = j then some (⟨b1, off1, none⟩ : Addr) else some ⟨b1, off1 + j, none⟩) = A' ∧ A' ≠ none ∧ (j < out.length → A' = some ⟨b1, off1 + j, none⟩) := by
              by_cases e : co = j
              · rw [if_pos e]; exact ⟨_, rfl, by simp, fun h => by omega⟩
              · rw [if_neg e]; exact ⟨_, rfl, by simp, fun _ => rfl⟩
            obtain ⟨A', hA', hA1, hA2⟩ := hcj
            rw [hA']
            have HRA := Lib.hid (show (A' = none → co - j = 0) ∧ Row W A' (out.length - j) (fun i => IVal out (j + i)) from ⟨fun e => absurd e hA1, fun i hi => by
              obtain ⟨b2, off2, e2, hc2⟩ := HVW.out.2.2 (j + i) (by omega)
              injection e2 with e2
              injection e2 with e3 e4
              subst e3
              subst e4
              exact ⟨b1, off1 + j, hA2 (by omega), by rw [Nat.add_assoc]; exact hc2⟩⟩)
            have HA9 := Lib.hid (show (some (⟨b1, off1, none⟩ : Addr)) = none → co = 0 from fun e => by cases e)
            clear hA' hA1 hA2
            refine wpAnyH_ready (rs := [11]) (by kernel_rfl) (by simp) ?_
            refine AllReadyH.cons rfl (fun K hK => ?_) AllReadyH.nil
            refine step_appendRowU rfl (.tmp 43) (.tmp 46) 45 rfl w.heap.size 3 i0 (.int .i64 0) 8 Try.underlying45 HI.out HZ0.out HZ1.out HZ2.out rfl _ 1 (icells [x]) rfl ⟨rfl, .inr ⟨W.heap.size, 1, _, rfl, HVW.out.2.1.size, heap_alloc_new W _, Nat.le_refl _, by unfold maxLen; decide, rfl, rfl⟩⟩ A' (out.length - j) (co - j) (fun i => IVal out (j + i)) rfl HRA.out.1 (HRA.out.2.up hua.drew) (ivals_one _ _ (fun k => ⟨_, rfl⟩)) (by decide) (by have := HBL.out; omega) (Nat.le_trans HVW.out.2.1.size hua.size) ?_
            intro v6 w6 hown6 hg6 hbl6
            rw [range_drop HBL.out.2, ← icells_app] at hown6
            have HOW6 := Lib.hid hown6
            have HU6 := Lib.hid (show Up w w6 from Below.trans (HVW.out.2.1.trans hua.drew) hbl6)
            have hk6 := And.intro ((HU6.out.cell (cell_lt HK1.out)).trans HK1.out) ((HU6.out.cell (cell_lt HX9.out)).trans HX9.out)
            have HRO6 := Lib.hid (show Row w6 (some ⟨b1, off1, none⟩) j (IVal out) from fun i hi => row_past HVW.out.2.2 hua.drew hg6 (Nat.le_refl _) i (Nat.lt_of_lt_of_le hi HBL.out.2))
            clear hown6
            refine hK.out _ _ hk6 (fun hS2 => ?_)
            clear hK K
            try simp only [Act.put, List.setIfInBounds_toArray, List.set_cons_zero, List.set_cons_succ]
            refine wpAnyH_take (i := 12) (v := ?_) rfl (by kernel_rfl) (by kernel_rfl) (by kernel_rfl) (fun _ _ _ h => h) (Or.inl ⟨by kernel_rfl, ?_⟩) hS2 ?_
            rotate_left
            · intro w hSw
              try dsimp only at hSw
              go_simp
              try (with_reducible rfl)
            try simp only [Act.put, List.setIfInBounds_toArray, List.set_cons_zero, List.set_cons_succ]
            refine wpAnyH_done (by kernel_rfl) ?_ _
            try simp only [Act.put, List.setIfInBounds_toArray, List.set_cons_zero, List.set_cons_succ, List.getElem_toArray, List.getElem_cons_succ, List.getElem_cons_zero]
            clear hS0 hS1 hS2 hk6 hSS
            have HRL := Lib.hid (show ([x] ++ out.drop j).length = 1 + (out.length - j) by simp; omega)
            obtain ⟨A6, c6, rfl, hr6, hc6⟩ := own_row (f := IVal ([x] ++ out.drop j)) HOW6.out (fun i hi => iVal_map (by rw [HRL.out]; exact hi))
            have HR6 := Lib.hid (And.intro hr6 (show A6 = none → c6 = 0 from fun e => by
              obtain ⟨b6, o6, e6, _⟩ := hr6 0 (by omega)
              rw [e] at e6; cases e6))
            have HUA6 := Lib.hid (show Up w6 (w6.alloc (.cells #[] 3)) from (Up.refl w6).alloc _)
            have HOE := Lib.hid (show (w6.alloc (.cells #[] 3)).ownsRow w.heap.size 3 1 (.slice (some ⟨w6.heap.size, 0, none⟩) 0 0) 0 [] from ⟨rfl, .inr ⟨w6.heap.size, 0, _, rfl, HU6.out.size, heap_alloc_new w6 _, Nat.le_refl _, by unfold maxLen; decide, rfl, rfl⟩⟩)
            clear hr6 hc6 hg6 hbl6 hua
            go_wp2_with (at_builtin; first
              | (refine wpList_appendRow rfl (.tmp 48) (.tmp 51) 45 rfl w.heap.size 3 i0 (.int .i64 0) 8 Try.underlying45 HI.out HZ0.out HZ1.out HZ2.out rfl _ 0 [] rfl HOE.out (some ⟨b1, off1, none⟩) j co (IVal out) rfl HA9.out (HRO6.out.up HUA6.out) (ivals_one _ _ (fun k => ⟨_, rfl⟩)) (by decide) (by have := HBL.out; omega) (Nat.le_trans HU6.out.size HUA6.out.size) ?_; intro v7 w7 hown7 hg7 hbl7; have HOW7 := Lib.hid hown7; have HU7 := Lib.hid (show Up w w7 from Below.trans (HU6.out.trans HUA6.out) hbl7); have HR7 := Lib.hid (row_past HR6.out.1 HUA6.out hg7 (Nat.le_refl _)); clear hown7 hg7 hbl7)
              | (refine wpList_appendRow rfl (.tmp 52) (.tmp 53) 45 rfl w.heap.size 3 i0 (.int .i64 0) 8 Try.underlying45 HI.out HZ0.out HZ1.out HZ2.out rfl _ (0 + j) ([] ++ (List.range j).map (IVal out)) rfl HOW7.out A6 (1 + (out.length - j)) c6 (IVal ([x] ++ out.drop j)) rfl HR6.out.2 HR7.out (ivals_one _ _ (fun k => ⟨_, rfl⟩)) (by decide) (by have := HBL.out; omega) HU7.out.size ?_; intro v8 w8 hown8 hg8 hbl8; have HOW8 := Lib.hid hown8; have HU8 := Lib.hid (show Up w w8 from Below.trans HU7.out hbl8); clear hown8 hg8 hbl8))
            have HFIN := Lib.hid (show w8.ownsRow w.heap.size 3 1 v8 (usedK ds (k + 1)).length (icells (usedK ds (k + 1))) from by
              have h := HOW8.out
              rw [List.nil_append, range_take HBL.out.2, ← HRL.out, range_all, ← icells_app] at h
              have e : usedK ds (k + 1) = out.take j ++ ([x] ++ out.drop j) := by rw [HUS.out]; unfold insP; rw [HLQ.out]
              rw [e, List.length_append, List.length_take, Nat.min_eq_left HBL.out.2]
              rw [Nat.zero_add] at h
              exact h)
            go_wp2_with fail
            go_roundw
            case rel => exact ⟨k + 1, HLT.out, by go_num, Lib.hid ⟨HFIN.out, HU8.out⟩⟩
            case measure => simp [intOf]; omega
    · obtain rfl : k = ds.length := by omega
      clear hlt
      go_wp2_with fail
      go_ret
      exact ⟨_, rfl, HV.out⟩

end Go.Proofs.Ytpapcheliohacaa
