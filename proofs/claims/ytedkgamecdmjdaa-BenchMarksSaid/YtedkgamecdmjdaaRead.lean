/-
  Package cell: a read begins.
-/
import Derived.Test.YtedkgamecdmjdaaCellI
set_option linter.unusedVariables false
set_option linter.unusedSimpArgs false
namespace Go.Proofs.Ytedkgamecdmjdaa
open Go.RowKit

theorem readN_few (c : CS) : ∀ k, (readN c k).may.length ≤ k + 1
  | 0 => by unfold readN; split <;> simp
  | k + 1 => by
    have := readN_few c k
    unfold readN
    split
    · unfold ovl
      split
      · simp; omega
      · simp; omega
    · omega
theorem readN_none (c : CS) (h : c.kind ≠ 2) : ∀ k, (readN c k).may = []
  | 0 => by unfold readN; rw [if_neg h]
  | k + 1 => by
    have := readN_none c h k
    unfold readN
    split
    · unfold ovl; rw [if_neg h]; exact this
    · exact this
theorem readN_some (c : CS) (h : c.kind = 2) : ∀ k, 0 < (readN c k).may.length
  | 0 => by unfold readN; rw [if_pos h]; simp
  | k + 1 => by
    have := readN_some c h k
    unfold readN
    split
    · unfold ovl; rw [if_pos h]; simp
    · exact this
theorem three_allocC (w : World) (R V E : Array Value) (tr tv te : TypeId) : Up w (((w.alloc (.cells R tr)).alloc (.cells V tv)).alloc (.cells E te)) ∧ (((w.alloc (.cells R tr)).alloc (.cells V tv)).alloc (.cells E te)).heap[w.heap.size]? = some (.cells R tr (0, 0)) ∧
    (((w.alloc (.cells R tr)).alloc (.cells V tv)).alloc (.cells E te)).heap[w.heap.size + 1]? = some (.cells V tv (0, 0)) ∧ (((w.alloc (.cells R tr)).alloc (.cells V tv)).alloc (.cells E te)).heap[w.heap.size + 1 + 1]? = some (.cells E te (0, 0)) ∧ True := by
  have u1 : Up w (w.alloc (.cells R tr)) := (Up.refl w).alloc _
  have u2 : Up (w.alloc (.cells R tr)) ((w.alloc (.cells R tr)).alloc (.cells V tv)) := (Up.refl _).alloc _
  have u3 : Up ((w.alloc (.cells R tr)).alloc (.cells V tv)) (((w.alloc (.cells R tr)).alloc (.cells V tv)).alloc (.cells E te)) := (Up.refl _).alloc _
  have h1 := heap_alloc_new w (.cells R tr)
  have h2 := heap_alloc_new (w.alloc (.cells R tr)) (.cells V tv)
  have h3 := heap_alloc_new ((w.alloc (.cells R tr)).alloc (.cells V tv)) (.cells E te)
  have s1 : (w.alloc (.cells R tr)).heap.size = w.heap.size + 1 := by simp
  have s2 : ((w.alloc (.cells R tr)).alloc (.cells V tv)).heap.size = w.heap.size + 1 + 1 := by simp
  rw [s1] at h2
  rw [s2] at h3
  exact ⟨(u1.trans u2).trans u3, ((u2.trans u3).block _ (by omega)).trans h1, (u3.block _ (by omega)).trans h2, h3, trivial⟩
theorem two_allocC (w : World) (R V : Array Value) (tr tv : TypeId) : Up w ((w.alloc (.cells R tr)).alloc (.cells V tv)) ∧ ((w.alloc (.cells R tr)).alloc (.cells V tv)).heap[w.heap.size]? = some (.cells R tr (0, 0)) ∧
    ((w.alloc (.cells R tr)).alloc (.cells V tv)).heap[w.heap.size + 1]? = some (.cells V tv (0, 0)) := by
  have u1 : Up w (w.alloc (.cells R tr)) := (Up.refl w).alloc _
  have u2 : Up (w.alloc (.cells R tr)) ((w.alloc (.cells R tr)).alloc (.cells V tv)) := (Up.refl _).alloc _
  have h1 := heap_alloc_new w (.cells R tr)
  have h2 := heap_alloc_new (w.alloc (.cells R tr)) (.cells V tv)
  have s1 : (w.alloc (.cells R tr)).heap.size = w.heap.size + 1 := by simp
  rw [s1] at h2
  exact ⟨u1.trans u2, (u2.block _ (by omega)).trans h1, h2⟩
/-- The world behind a store of five cells into a block. -/
def put5 (w : World) (b : Nat) (v0 v1 v2 v3 v4 : Value) : World := ((((w.setCell ⟨b, 0, none⟩ v0).setCell ⟨b, 1, none⟩ v1).setCell ⟨b, 2, none⟩ v2).setCell ⟨b, 3, none⟩ v3).setCell ⟨b, 4, none⟩ v4
theorem put5_same {w : World} {b : Nat} {t : TypeId} {x0 x1 x2 x3 x4 : Value} (v0 v1 v2 v3 v4 : Value) (h : w.heap[b]? = some (.cells #[x0, x1, x2, x3, x4] t (0, 0))) : (put5 w b v0 v1 v2 v3 v4).heap[b]? = some (.cells #[v0, v1, v2, v3, v4] t (0, 0)) := by
  unfold put5
  rw [heap_setCell_same _ _ _ _ _ _ (heap_setCell_same _ _ _ _ _ _ (heap_setCell_same _ _ _ _ _ _ (heap_setCell_same _ _ _ _ _ _ (heap_setCell_same _ _ _ _ _ _ h))))]
  rfl
theorem put5_other (w : World) (b k : Nat) (v0 v1 v2 v3 v4 : Value) (h : k ≠ b) : (put5 w b v0 v1 v2 v3 v4).heap[k]? = w.heap[k]? := by
  unfold put5
  rw [Below.heap_setCell _ _ _ _ h, Below.heap_setCell _ _ _ _ h, Below.heap_setCell _ _ _ _ h, Below.heap_setCell _ _ _ _ h, Below.heap_setCell _ _ _ _ h]
theorem put5_below (w : World) (b N : Nat) (v0 v1 v2 v3 v4 : Value) (h : N ≤ b) : Below N w (put5 w b v0 v1 v2 v3 v4) :=
  (((((Below.refl N w).setCell (p := ⟨b, 0, none⟩) h _).setCell (p := ⟨b, 1, none⟩) h _).setCell (p := ⟨b, 2, none⟩) h _).setCell (p := ⟨b, 3, none⟩) h _).setCell (p := ⟨b, 4, none⟩) h _
/-- What the loop of a read finds. -/
structure ReadSt (w wr : World) (c : CS) (k : Nat) (m : Value) : Prop where
  up : Up w wr
  a : AccAt wr (w.heap.size + 1) 0 (readN c k) m
  fz : ∀ j, wr.frozen? ⟨w.heap.size + 1, j, none⟩ = false
  may : MayIs wr w.heap.size m (readN c k).may
  ap1 : m.ownBlock ≠ some (w.heap.size + 1)
  ap0 : m.ownBlock ≠ some w.heap.size
  res : wr.heap[w.heap.size]? = some (.cells #[.bool false, .bool false, .int .i64 0, .bool false, .slice none 0 0] 106 (0, 0))
  nil : c.kind ≠ 2 → m = .slice none 0 0
/-- The end of a read that begins. -/
theorem read_end {w wr : World} {c : CS} {m m2 : Value} (h : ReadSt w wr c 8 m) (hm : MayIs wr w.heap.size m2 (readN c 8).may) (ho : m2.ownBlock = m.ownBlock) (v0 v1 v2 v3 : Value) :
    (put5 (wr.setCell ⟨w.heap.size + 1, 4, none⟩ m2) w.heap.size v0 v1 v2 v3 m2).heap[w.heap.size]? = some (.cells #[v0, v1, v2, v3, m2] 106 (0, 0)) ∧
      Up w (put5 (wr.setCell ⟨w.heap.size + 1, 4, none⟩ m2) w.heap.size v0 v1 v2 v3 m2) ∧ MayIs (put5 (wr.setCell ⟨w.heap.size + 1, 4, none⟩ m2) w.heap.size v0 v1 v2 v3 m2) w.heap.size m2 (readN c 8).may := by
  have h0 : (wr.setCell ⟨w.heap.size + 1, 4, none⟩ m2).heap[w.heap.size]? = wr.heap[w.heap.size]? := Below.heap_setCell wr ⟨w.heap.size + 1, 4, none⟩ _ _ (show w.heap.size ≠ w.heap.size + 1 by omega)
  refine ⟨put5_same _ _ _ _ _ (h0.trans h.res), Below.trans (Below.trans h.up ((Below.refl w.heap.size wr).setCell (p := ⟨w.heap.size + 1, 4, none⟩) (show w.heap.size ≤ w.heap.size + 1 by omega) m2)) (put5_below _ _ _ _ _ _ _ _ (Nat.le_refl _)), hm.same (by simp [put5]) fun k hk => ?_⟩
  rw [ho] at hk
  have n1 : k ≠ w.heap.size + 1 := fun e => h.ap1 (by rw [hk, e])
  have n0 : k ≠ w.heap.size := fun e => h.ap0 (by rw [hk, e])
  exact (put5_other _ _ _ _ _ _ _ _ n0).trans (Below.heap_setCell wr ⟨w.heap.size + 1, 4, none⟩ _ k n1)
theorem ReadSt.over {w wr w' : World} {c : CS} {k : Nat} {m m' : Value} (h : ReadSt w wr c k m) (hon : (c.bys k).on = true) (hwr : (c.bys k).wr = true) (hp : OvPost wr w' (w.heap.size + 1) 0 m m')
    (hm : MayIs w' w.heap.size m' (if c.kind = 2 then (readN c k).may ++ [(c.bys k).val] else (readN c k).may)) (hn : c.kind ≠ 2 → m' = m) : ReadSt w w' c (k + 1) m' := by
  have e : readN c (k + 1) = ovl c.kind (c.bys k).val (readN c k) := by
    show (if _ then _ else _) = _
    rw [if_pos ⟨hon, hwr⟩]
  have hg := h.may.ge
  have hs : w.heap.size + 1 < wr.heap.size := cell_lt h.a.1
  have hap : ∀ b, b < wr.heap.size → m.ownBlock ≠ some b → m'.ownBlock ≠ some b := fun b hb hne => by
    rcases hp.ob with h1 | h1
    · rw [h1]; exact hne
    · intro e; have := h1 b e; omega
  have hbb : ∀ b, b < w.heap.size → w'.heap[b]? = wr.heap[b]? := fun b hb => hp.block b (by have := h.up.size; omega) (by omega) (fun e => by have := hg b e; omega)
  have hbel : Below w.heap.size wr w' := ⟨hp.os, hp.tape, hp.output, hp.size, hbb⟩
  obtain ⟨a0, a1, a2, a3, a4⟩ := h.a
  refine ⟨Below.trans h.up hbel, ?_, fun j => (hp.fz j).trans (h.fz j), ?_, hap _ (by omega) h.ap1, hap _ (by omega) h.ap0, ?_, fun hk => by rw [hn hk]; exact h.nil hk⟩
  · rw [e]
    refine ⟨(hp.oth 0 (by omega) (by omega)).trans a0, (hp.oth 1 (by omega) (by omega)).trans a1, (hp.oth 2 (by omega) (by omega)).trans a2, hp.c3, hp.c4⟩
  · rw [e]; exact hm
  · refine (hp.block w.heap.size (by omega) (by omega) h.ap0).trans h.res
theorem ReadSt.skip {w wr : World} {c : CS} {k : Nat} {m : Value} (h : ReadSt w wr c k m) (hn : ¬ ((c.bys k).on = true ∧ (c.bys k).wr = true)) : ReadSt w wr c (k + 1) m := by
  have e : readN c (k + 1) = readN c k := by
    show (if _ then _ else _) = _
    rw [if_neg hn]
  exact ⟨h.up, by rw [e]; exact h.a, h.fz, by rw [e]; exact h.may, h.ap1, h.ap0, h.res, h.nil⟩

set_option maxRecDepth 10000 in
set_option maxHeartbeats 1000000 in
theorem cread_any (h B : Nat) (c : CS) (ms : Nat → Value) (w : World) (H : CellIs w h B c ms) :
    Calls Try.prog 51 #[.pointer (some ⟨h, 0, none⟩)] w fun e w' => ∃ m, e = .returned (.agg #[.bool (readN c 8).on, .bool (readN c 8).wr, .int .i64 (readN c 8).val, .bool (readN c 8).ov, m]) ∧ Up w w' ∧ MayIs w' w.heap.size m (readN c 8).may := by
  have k0 := H.k0
  have k2 := H.k2
  have hlt := H.lt
  have HH := Lib.hid H
  have HLT := Lib.hid hlt
  by_cases hk : c.kind = 2
  · have hb := three_allocC w #[.bool false, .bool false, .int .i64 0, .bool false, .slice none 0 0] #[.bool true, .bool false, .int .i64 0, .bool false, .slice (some ⟨w.heap.size + 1 + 1, 0, none⟩) 1 1] #[.int .i64 c.value] 106 106 3
    have HST := Lib.hid (show ReadSt w (((w.alloc (.cells #[.bool false, .bool false, .int .i64 0, .bool false, .slice none 0 0] 106)).alloc (.cells #[.bool true, .bool false, .int .i64 0, .bool false, .slice (some ⟨w.heap.size + 1 + 1, 0, none⟩) 1 1] 106)).alloc (.cells #[.int .i64 c.value] 3)) c 0 (.slice (some ⟨w.heap.size + 1 + 1, 0, none⟩) 1 1) from by
      obtain ⟨h1, h2, h3, h4, h5⟩ := hb
      have e0 : readN c 0 = ⟨true, false, 0, false, [c.value]⟩ := by unfold readN; rw [if_pos hk]
      refine ⟨h1, ?_, fun j => frozen_of_row _ _ j _ _ h3, ?_, (fun e => by simp only [Value.ownBlock, Option.some.injEq] at e; omega), (fun e => by simp only [Value.ownBlock, Option.some.injEq] at e; omega), h2, fun e => absurd hk e⟩
      · rw [e0]
        exact ⟨cell_of_row _ _ 0 _ _ _ h3, cell_of_row _ _ 1 _ _ _ h3, cell_of_row _ _ 2 _ _ _ h3, cell_of_row _ _ 3 _ _ _ h3, cell_of_row _ _ 4 _ _ _ h3⟩
      · rw [e0]
        exact .inl ⟨rfl, .inr ⟨w.heap.size + 1 + 1, 1, #[.int .i64 c.value], rfl, by omega, h4, Nat.le_refl _, by decide, rfl, rfl⟩⟩)
    rw [hk] at k0
    clear hb H
    go_enter Try.func51, Try.ntmps51
    go_wp2_with fail
    generalize ((w.alloc (.cells #[.bool false, .bool false, .int .i64 0, .bool false, .slice none 0 0] 106)).alloc (.cells #[.bool true, .bool false, .int .i64 0, .bool false, .slice (some ⟨w.heap.size + 1 + 1, 0, none⟩) 1 1] 106)).alloc (.cells #[.int .i64 c.value] 3) = W0 at *
    have HK := Lib.hid hk
    clear k0 k2 hlt
    go_loopw [18] (fun t wr => ∃ (k : Nat) (m : Value), k ≤ 8 ∧ t = .int .i64 k ∧ Hid (ReadSt w wr c k m)) (fun t _ => 8 - (intOf t).toNat)
    case atStart => exact ⟨0, _, by omega, rfl, HST⟩
    case round =>
      obtain ⟨k, m, hk8, rfl, HSr⟩ := hrel
      have HU := Lib.hid HSr.out.up
      by_cases hlt : k < 8
      · obtain ⟨g0, g1, g2, -⟩ := HH.out.acc k hlt
        have e0 := (HU.out.cell (p := ⟨h, 3 + k * 5, none⟩) HLT.out).trans g0
        have e1 := (HU.out.cell (p := ⟨h, 3 + k * 5 + 1, none⟩) HLT.out).trans g1
        have e2 := (HU.out.cell (p := ⟨h, 3 + k * 5 + 2, none⟩) HLT.out).trans g2
        have hki : (k : Int) < 8 := by omega
        have HSK := Lib.hid (HSr.out.skip)
        obtain ⟨on, hon⟩ : ∃ x, (c.bys k).on = x := ⟨_, rfl⟩
        obtain ⟨wrt, hwr⟩ : ∃ x, (c.bys k).wr = x := ⟨_, rfl⟩
        rw [hon] at e0
        rw [hwr] at e1
        have HON := Lib.hid (And.intro hon hwr)
        clear hon hwr g0 g1 g2
        cases on
        · clear e1 e2
          go_wp2_with fail
          go_roundw
          case rel => exact ⟨k + 1, m, by omega, by go_num, Lib.hid (HSK.out (by rw [HON.out.1]; simp))⟩
          case measure => simp [intOf]; omega
        cases wrt
        · clear e2
          go_wp2_with fail
          go_roundw
          case rel => exact ⟨k + 1, m, by omega, by go_num, Lib.hid (HSK.out (by rw [HON.out.2]; simp))⟩
          case measure => simp [intOf]; omega
        have HOV := Lib.hid (overlap_may h (w.heap.size + 1) 0 w.heap.size c.kind (c.bys k).val m (readN c k).ov (readN c k).may wr ((HU.out.cell (p := ⟨h, 0, none⟩) HLT.out).trans HH.out.k0) HSr.out.a.2.2.2.1 HSr.out.a.2.2.2.2 HSr.out.fz HSr.out.may HU.out.size (by have := readN_few c k; omega) HSr.out.ap1)
        clear HSK
        go_wp2_with fail
        refine HOV.out.mono ?_
        rintro e w2 ⟨rfl, m', hp, hm, hn⟩
        have HS2 := Lib.hid (HSr.out.over HON.out.1 HON.out.2 hp hm hn)
        clear hp hm hn e0 e1 e2 HOV HSr HU
        go_wp2_with fail
        go_roundw
        case rel => exact ⟨k + 1, m', by omega, by go_num, HS2⟩
        case measure => simp [intOf]; omega
      · obtain rfl : k = 8 := by omega
        clear hlt
        obtain ⟨a0, a1, a2, a3, a4⟩ := HSr.out.a
        have hpos := readN_some c HK.out 8
        have hfew := readN_few c 8
        have hml : ∃ (g cap : Nat), m = .slice (some ⟨g, 0, none⟩) (readN c 8).may.length cap ∧ (readN c 8).may.length ≤ cap ∧ w.heap.size ≤ g ∧ g < wr.heap.size ∧ (∀ j u, (icells (readN c 8).may)[j]? = some u → wr.cell? ⟨g, j, none⟩ = some u) := by
          rcases HSr.out.may with h1 | ⟨g, h1, h2, h3, h4⟩
          · rcases h1.2 with ⟨_, hn⟩ | ⟨g, cap, cur, hv, hb, hh, h5, _⟩
            · omega
            · exact ⟨g, cap, hv, h5, hb, (Array.getElem?_eq_some_iff.1 hh).1, fun j u hu => by
              have := h1.cells (g := g) (by rw [hv]; rfl) j u hu
              rw [Go.WideShapes.add_plain, Nat.zero_add] at this
              exact this⟩
          · exact ⟨g, _, h1, Nat.le_refl _, h2, h3, h4⟩
        obtain ⟨g, cap, rfl, hcap, hg1, hg2, hrow⟩ := hml
        generalize hR : readN c 8 = R at *
        have f4 := HSr.out.fz 4
        have b0 := cell_of_row _ _ 0 _ _ _ HSr.out.res
        have b1 := cell_of_row _ _ 1 _ _ _ HSr.out.res
        have b2 := cell_of_row _ _ 2 _ _ _ HSr.out.res
        have b3 := cell_of_row _ _ 3 _ _ _ HSr.out.res
        have b4 := cell_of_row _ _ 4 _ _ _ HSr.out.res
        simp only [List.getElem?_toArray, List.getElem?_cons_zero, List.getElem?_cons_succ] at b0 b1 b2 b3 b4
        have hfz0 : ∀ j, wr.frozen? ⟨w.heap.size, j, none⟩ = false := fun j => frozen_of_row _ _ j _ _ HSr.out.res
        have HE := Lib.hid (read_end (m2 := .slice (some ⟨g, 0, none⟩) R.may.length R.may.length) HSr.out (by rw [hR]; exact .inr ⟨g, rfl, hg1, hg2, hrow⟩) rfl (.bool R.on) (.bool R.wr) (.int .i64 R.val) (.bool R.ov))
        rw [hR] at HE
        clear hrow HSr hpos hfew HH
        go_wp2_with fail
        refine bodyPost_ret (v := .agg #[.bool R.on, .bool R.wr, .int .i64 R.val, .bool R.ov, .slice (some ⟨g, 0, none⟩) R.may.length R.may.length]) ?_ rfl ?_
        rotate_left
        · rw [hR]
          exact ⟨_, rfl, HE.out.2.1, HE.out.2.2⟩
        exact results_cell_row rfl _ _ w.heap.size 106 _ _ _ rfl HE.out.1 Try.underlying106 rfl (by kernel_rfl)
  · have hb := two_allocC w #[.bool false, .bool false, .int .i64 0, .bool false, .slice none 0 0] #[.bool true, .bool false, .int .i64 0, .bool false, .slice none 0 0] 106 106
    have HST := Lib.hid (show ReadSt w ((w.alloc (.cells #[.bool false, .bool false, .int .i64 0, .bool false, .slice none 0 0] 106)).alloc (.cells #[.bool true, .bool false, .int .i64 0, .bool false, .slice none 0 0] 106)) c 0 (.slice none 0 0) from by
      obtain ⟨h1, h2, h3⟩ := hb
      have e0 : readN c 0 = ⟨true, false, 0, false, []⟩ := by unfold readN; rw [if_neg hk]
      refine ⟨h1, ?_, fun j => frozen_of_row _ _ j _ _ h3, ?_, (by simp [Value.ownBlock]), (by simp [Value.ownBlock]), h2, fun _ => rfl⟩
      · rw [e0]
        exact ⟨cell_of_row _ _ 0 _ _ _ h3, cell_of_row _ _ 1 _ _ _ h3, cell_of_row _ _ 2 _ _ _ h3, cell_of_row _ _ 3 _ _ _ h3, cell_of_row _ _ 4 _ _ _ h3⟩
      · rw [e0]
        exact .inl ⟨rfl, .inl ⟨rfl, rfl⟩⟩)
    have hk2 : (c.kind == 2) = false := by rw [beq_eq_false_iff_ne]; exact hk
    obtain ⟨kd, hkd⟩ : ∃ x, c.kind = x := ⟨_, rfl⟩
    rw [hkd] at k0 hk2
    have HKD := Lib.hid hkd
    clear hb H hkd
    go_enter Try.func51, Try.ntmps51
    go_wp2_with fail
    generalize (w.alloc (.cells #[.bool false, .bool false, .int .i64 0, .bool false, .slice none 0 0] 106)).alloc (.cells #[.bool true, .bool false, .int .i64 0, .bool false, .slice none 0 0] 106) = W0 at *
    have HK := Lib.hid hk
    clear k0 k2 hlt hk2 hk
    go_loopw [18] (fun t wr => ∃ (k : Nat) (m : Value), k ≤ 8 ∧ t = .int .i64 k ∧ Hid (ReadSt w wr c k m)) (fun t _ => 8 - (intOf t).toNat)
    case atStart => exact ⟨0, _, by omega, rfl, HST⟩
    case round =>
      obtain ⟨k, m, hk8, rfl, HSr⟩ := hrel
      have HU := Lib.hid HSr.out.up
      by_cases hlt : k < 8
      · obtain ⟨g0, g1, g2, -⟩ := HH.out.acc k hlt
        have e0 := (HU.out.cell (p := ⟨h, 3 + k * 5, none⟩) HLT.out).trans g0
        have e1 := (HU.out.cell (p := ⟨h, 3 + k * 5 + 1, none⟩) HLT.out).trans g1
        have e2 := (HU.out.cell (p := ⟨h, 3 + k * 5 + 2, none⟩) HLT.out).trans g2
        have hki : (k : Int) < 8 := by omega
        have HSK := Lib.hid (HSr.out.skip)
        obtain ⟨on, hon⟩ : ∃ x, (c.bys k).on = x := ⟨_, rfl⟩
        obtain ⟨wrt, hwr⟩ : ∃ x, (c.bys k).wr = x := ⟨_, rfl⟩
        rw [hon] at e0
        rw [hwr] at e1
        have HON := Lib.hid (And.intro hon hwr)
        clear hon hwr g0 g1 g2
        cases on
        · clear e1 e2
          go_wp2_with fail
          go_roundw
          case rel => exact ⟨k + 1, m, by omega, by go_num, Lib.hid (HSK.out (by rw [HON.out.1]; simp))⟩
          case measure => simp [intOf]; omega
        cases wrt
        · clear e2
          go_wp2_with fail
          go_roundw
          case rel => exact ⟨k + 1, m, by omega, by go_num, Lib.hid (HSK.out (by rw [HON.out.2]; simp))⟩
          case measure => simp [intOf]; omega
        have HOV := Lib.hid (overlap_may h (w.heap.size + 1) 0 w.heap.size c.kind (c.bys k).val m (readN c k).ov (readN c k).may wr ((HU.out.cell (p := ⟨h, 0, none⟩) HLT.out).trans HH.out.k0) HSr.out.a.2.2.2.1 HSr.out.a.2.2.2.2 HSr.out.fz HSr.out.may HU.out.size (by have := readN_few c k; omega) HSr.out.ap1)
        clear HSK
        go_wp2_with fail
        refine HOV.out.mono ?_
        rintro e w2 ⟨rfl, m', hp, hm, hn⟩
        have HS2 := Lib.hid (HSr.out.over HON.out.1 HON.out.2 hp hm hn)
        clear hp hm hn e0 e1 e2 HOV HSr HU
        go_wp2_with fail
        go_roundw
        case rel => exact ⟨k + 1, m', by omega, by go_num, HS2⟩
        case measure => simp [intOf]; omega
      · obtain rfl : k = 8 := by omega
        clear hlt
        obtain ⟨a0, a1, a2, a3, a4⟩ := HSr.out.a
        obtain rfl := HSr.out.nil HK.out
        have hnone := readN_none c HK.out 8
        generalize hR : readN c 8 = R at *
        have f4 := HSr.out.fz 4
        have b0 := cell_of_row _ _ 0 _ _ _ HSr.out.res
        have b1 := cell_of_row _ _ 1 _ _ _ HSr.out.res
        have b2 := cell_of_row _ _ 2 _ _ _ HSr.out.res
        have b3 := cell_of_row _ _ 3 _ _ _ HSr.out.res
        have b4 := cell_of_row _ _ 4 _ _ _ HSr.out.res
        simp only [List.getElem?_toArray, List.getElem?_cons_zero, List.getElem?_cons_succ] at b0 b1 b2 b3 b4
        have hfz0 : ∀ j, wr.frozen? ⟨w.heap.size, j, none⟩ = false := fun j => frozen_of_row _ _ j _ _ HSr.out.res
        have HE := Lib.hid (read_end (m2 := .slice none 0 0) HSr.out HSr.out.may rfl (.bool R.on) (.bool R.wr) (.int .i64 R.val) (.bool R.ov))
        rw [hR] at HE
        clear HSr hnone HH
        go_wp2_with fail
        refine bodyPost_ret (v := .agg #[.bool R.on, .bool R.wr, .int .i64 R.val, .bool R.ov, .slice none 0 0]) ?_ rfl ?_
        rotate_left
        · rw [hR]
          exact ⟨_, rfl, HE.out.2.1, HE.out.2.2⟩
        exact results_cell_row rfl _ _ w.heap.size 106 _ _ _ rfl HE.out.1 Try.underlying106 rfl (by kernel_rfl)

end Go.Proofs.Ytedkgamecdmjdaa
