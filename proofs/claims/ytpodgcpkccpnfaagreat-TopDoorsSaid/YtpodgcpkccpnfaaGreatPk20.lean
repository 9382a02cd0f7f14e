/-
  Parts of a proof, packed: AudE, ActP, DorP, AudB
-/
import Derived.Deep.RegionLaw
import Derived.Deep.RegionHeld3
import Derived.Test.YtpodgcpkccpnfaaGreatPk01
import Derived.Test.YtpodgcpkccpnfaaGreatPk17
import Derived.Test.YtpodgcpkccpnfaaGreatPk19
set_option linter.unusedVariables false
set_option linter.unusedSimpArgs false
set_option maxRecDepth 20000
set_option maxHeartbeats 16000000
namespace Go.Proofs.YtpodgcpkccpnfaaGreat
open Go.RowKit
theorem infoAc : (Tryz.prog.info? 94).map (fun i => (i.zero, i.size, i.bytes)) = some (some (.agg #[.int .i64 0, .int .i64 0, .int .i64 0, .int .i64 0, .int .i64 0, .int .i64 0, .int .i64 0, .int .i64 0, .int .i64 0, .int .i64 0]), 10, 80) := by kernel_rfl
structure EvIn (progs : List (List CD)) (obj : Int) (e : EvD) (t c : Nat) : Prop where
 ht : e.thread = t
 hc : e.call = c
 tn : t < progs.length
 cn : c < (progs.getD t []).length
 obj : ((progs.getD t []).getD c (0, 0, 0)).2.1 = obj
theorem actOf_in {progs : List (List CD)} {obj : Int} {e : EvD} {t c : Nat} (h : EvIn progs obj e t c) : actOf progs e = (e, (progs.getD t []).getD c (0, 0, 0)) := by
 unfold actOf callAt
 rw [h.ht, h.hc, Int.toNat_natCast, Int.toNat_natCast]
structure EvT (progs : List (List CD)) (e : EvD) (t c : Nat) : Prop where
 ht : e.thread = t
 hc : e.call = c
 tn : t < progs.length
def actIn (progs : List (List CD)) (obj : Int) (e : EvD) : Bool := decide (e.call.toNat < (progs.getD e.thread.toNat []).length) && decide (((progs.getD e.thread.toNat []).getD e.call.toNat (0, 0, 0)).2.1 = obj)
def actsOb (progs : List (List CD)) (obj : Int) (l : List EvD) : List ActD := actsOf progs (l.filter (actIn progs obj))
theorem actIn_is {progs : List (List CD)} {obj : Int} {e : EvD} {t c : Nat} (h : EvT progs e t c) : actIn progs obj e = (decide (c < (progs.getD t []).length) && decide (((progs.getD t []).getD c (0, 0, 0)).2.1 = obj)) := by
 unfold actIn
 rw [h.ht, h.hc, Int.toNat_natCast, Int.toNat_natCast]
theorem acts_take (progs : List (List CD)) (obj : Int) (l : List EvD) {i : Nat} (h : i < l.length) : actsOb progs obj (l.take (i + 1)) = actsOb progs obj (l.take i) ++ (if actIn progs obj (l.getD i ev0) = true then [actOf progs (l.getD i ev0)] else []) := by
 unfold actsOb actsOf
 rw [take_snoc (List.getElem?_eq_getElem h), List.filter_append, List.map_append, List.getD_eq_getElem?_getD, List.getElem?_eq_getElem h]
 congr 1
 show List.map _ (List.filter _ [l[i]]) = if actIn progs obj l[i] = true then [actOf progs l[i]] else []
 by_cases hb : actIn progs obj l[i] = true
 · rw [List.filter_cons_of_pos hb, if_pos hb]; rfl
 · rw [List.filter_cons_of_neg hb, if_neg hb]; rfl
theorem acts_len (progs : List (List CD)) (obj : Int) (l : List EvD) (i : Nat) : (actsOb progs obj (l.take i)).length ≤ i := by
 unfold actsOb actsOf
 rw [List.length_map]
 refine Nat.le_trans (List.length_filter_le _ _) ?_
 rw [List.length_take]; omega
theorem ActRow.push {w : World} {q j : Nat} {lv : Value} {l : List ActD} {e : ActD} (hj : l.length = j) (h : w.ownsRow q 94 10 lv (j + 1) (l.flatMap actL ++ actL e)) : ActRow w q lv (l ++ [e]) := by
 unfold ActRow
 rw [List.length_append, List.flatMap_append, hj]
 simpa using h
theorem acts_any {sc : ScD} {a : ScA} (l : List EvD) (A : Option Addr) (cp : Nat) (obj : Int) (w : World) (hs : ScrAt w sc a) (hl : l.length ≤ 100000000) (hr : EvsAt w A l) (hin : ∀ i, i < l.length → ∃ t c, EvT sc.progs (l.getD i ev0) t c) (hn : sc.progs.length ≤ 8) :
 Calls Tryz.prog 42 #[.agg #[.slice a.TA sc.things.length a.tc, .slice a.PA sc.progs.length a.pc, .slice a.KA sc.picks.length a.kc, .slice a.DA sc.draws.length a.dc], .slice A l.length cp, .int .i64 obj] w fun e w' =>
  (∃ v, e = .returned v ∧ ActRow w' w.heap.size v (actsOb sc.progs obj l)) ∧ Up w w' := by
 have HB0 : Hid (BoxS w (w.alloc (.cells (scrA sc a) 27)) (scrA sc a)) := hQ' ⟨Up.refl _⟩
 have HBB := hQ' (fun (wr : World) (h : BoxS w wr (scrA sc a)) => show wr.cell? ⟨w.heap.size, 1, none⟩ = some (.slice a.PA sc.progs.length a.pc) from h.cell 1)
 have HS := hQ' hs
 have HR := hQ' hr
 have HIN := hQ' hin
 have HTK := hQ' (fun i h => acts_take sc.progs obj l (i := i) h)
 have HTL := hQ' (fun (i : Nat) => acts_len sc.progs obj l i)
 have HTE := hQ' (show actsOb sc.progs obj (l.take l.length) = actsOb sc.progs obj l by rw [List.take_length])
 have HNI : Hid (∀ W, ActRow W (w.heap.size + 1) (.slice none 0 0) (actsOb sc.progs obj (l.take 0))) := hQ' fun W => own_nil _ _ _ _
 obtain ⟨i0, hi', hz0, hz1, hz2⟩ := info_parts infoAc
 have HIE := hQ' hi'
 have HZ0 := hQ' hz0
 have HZ1 := hQ' hz1
 have HZ2 := hQ' hz2
 have HN8 := hQ' hn
 clear hs hr hin hi' hz0 hz1 hz2
 obtain ⟨n, hnl⟩ : ∃ n, l.length = n := ⟨_, rfl⟩
 rw [hnl] at HIN HTK HTE hl ⊢
 have c1 := HBB.out _ HB0.out
 unfold scrA at HB0 c1
 go_enter Tryz.func42, Tryz.ntmps42
 go_wp2_with fail
 have HB1 : Hid (BoxS w (w.alloc (.cells #[.slice a.TA sc.things.length a.tc, .slice a.PA sc.progs.length a.pc, .slice a.KA sc.picks.length a.kc, .slice a.DA sc.draws.length a.dc] 27)) (scrA sc a)) := hQ' HB0.out
 clear HB0 c1
 go_loopw [7, 8] (fun ov x wr => ∃ i : Nat, i ≤ n ∧ x = .int .i64 i ∧ Hid (ActRow wr (w.heap.size + 1) ov (actsOb sc.progs obj (l.take i))) ∧ Hid (BoxS w wr (scrA sc a))) (fun _ x _ => n - (intOf x).toNat)
 case atStart => exact ⟨0, by omega, rfl, hQ' (HNI.out _), HB1⟩
 case round =>
  obtain ⟨i, hi, rfl, HA, HV⟩ := hrel
  by_cases hlt : i < n
  · have hii : (i : Int) < n := by omega
    have hi0 : (0 : Int) ≤ i := by omega
    have hib : (i : Int) ≤ 100000000 := by omega
    obtain ⟨b, off, eA, hx⟩ := (HR.out.up HV.out.w) i (by rw [hnl]; exact hlt)
    obtain ⟨t, c, hT⟩ := HIN.out i hlt
    rcases Nat.lt_or_ge c (sc.progs.getD t []).length with hcl | hcl
    · by_cases hob0 : ((sc.progs.getD t []).getD c (0, 0, 0)).2.1 = obj
      · have hE : EvIn sc.progs obj (l.getD i ev0) t c := ⟨hT.ht, hT.hc, hT.tn, hcl, hob0⟩
        have HAE := hQ' (actOf_in hE)
        have HTI := hQ' (show actsOb sc.progs obj (l.take (i + 1)) = actsOb sc.progs obj (l.take i) ++ [actOf sc.progs (l.getD i ev0)] from by rw [HTK.out i hlt, if_pos (by rw [actIn_is hT, decide_eq_true hcl, decide_eq_true hob0]; rfl)])
        obtain ⟨xs, hxe⟩ : ∃ xs, (actsOb sc.progs obj (l.take i)).flatMap actL = xs := ⟨_, rfl⟩
        obtain ⟨j, hj⟩ : ∃ j, (actsOb sc.progs obj (l.take i)).length = j := ⟨_, rfl⟩
        have HLI := hQ' hj
        have HJI := hQ' (show j ≤ i from by rw [← hj]; exact HTL.out i)
        have HXS : Hid (wr.ownsRow (w.heap.size + 1) 94 10 u7 j xs) := hQ' (by
         have h := HA.out
         unfold ActRow at h
         rw [hj, hxe] at h
         exact h)
        clear hj
        have HXE := hQ' hxe
        obtain ⟨Ae, ce, rfl, hce, _⟩ := own_form HXS.out
        obtain ⟨pb, poff, A', c', eP, p0, p1, p2, p3, p4⟩ := HS.out.pr t hE.tn
        obtain ⟨b2, off2, eC, k0, k1, k2⟩ := p1 c hE.cn
        have hlp := cell_lt p0
        have hlc := cell_lt k0
        have p0 := (HV.out.w.cell hlp).trans p0
        have k0 := (HV.out.w.cell hlc).trans k0
        have k1 := (HV.out.w.cell hlc).trans k1
        have k2 := (HV.out.w.cell hlc).trans k2
        have HLP := hQ' (And.intro hlp hlc)
        clear hlp hlc
        have hob := hE.obj
        have h1 := hE.ht
        have h2 := hE.hc
        have htn : (t : Int) < sc.progs.length := by have := hE.tn; omega
        have hcn : (c : Int) < (sc.progs.getD t []).length := by have := hE.cn; omega
        have ht0 : (0 : Int) ≤ t := by omega
        have hc0 : (0 : Int) ≤ c := by omega
        have c1 := HBB.out _ HV.out
        obtain ⟨m, hm⟩ : ∃ m, (sc.progs.getD t []).length = m := ⟨_, rfl⟩
        obtain ⟨pn, hpn⟩ : ∃ m, sc.progs.length = m := ⟨_, rfl⟩
        rw [hm] at p0 p2 hcn
        rw [hpn] at htn c1
        rw [eP] at c1
        rw [eC] at p0
        generalize (sc.progs.getD t []).getD c (0, 0, 0) = cd at *
        generalize l.getD i ev0 = ev at *
        obtain ⟨x0, x1, x2, x3, x4, x5, x6⟩ := ev
        obtain ⟨y0, y1, y2⟩ := cd
        have hob : obj = y1 := hob.symm
        have h1 : x2 = (t : Int) := h1
        have h2 : x3 = (c : Int) := h2
        subst hob h1 h2
        try clear hob
        try clear h1
        try clear h2
        have HBX := hQ' (ev_box wr ⟨x0, x1, t, c, x4, x5, x6⟩ 60)
        have HUX := hQ' ((Up.refl wr).alloc (.cells (evA ⟨x0, x1, t, c, x4, x5, x6⟩) 60))
        unfold evA at HBX HUX
        dsimp only at HBX HUX
        obtain ⟨W1, hW1⟩ : ∃ x, wr.alloc (.cells #[.int .i64 x0, .int .i64 x1, .int .i64 t, .int .i64 c, .int .i64 x4, .int .i64 x5, .int .i64 x6] 60) = x := ⟨_, rfl⟩
        obtain ⟨e0, e1, e2, e3, e4, e5, e6⟩ := hx
        dsimp only at e0 e1 e2 e3 e4 e5 e6 k0 k1 k2
        obtain ⟨q, hq⟩ : ∃ q, wr.heap.size = q := ⟨_, rfl⟩
        rw [hW1, hq] at HBX
        have HQE := hQ' hq
        rw [hW1] at HUX
        have HSI := hQ' (fun (W : World) (u : ∀ k, (k = q ∨ k ≤ w.heap.size) → W.heap[k]? = W1.heap[k]?) => show (W.cell? ⟨q, 0, none⟩ = some (.int .i64 x0) ∧ W.cell? ⟨q, 1, none⟩ = some (.int .i64 x1) ∧ W.cell? ⟨q, 2, none⟩ = some (.int .i64 t) ∧ W.cell? ⟨q, 3, none⟩ = some (.int .i64 c) ∧ W.cell? ⟨q, 4, none⟩ = some (.int .i64 x4) ∧ W.cell? ⟨q, 5, none⟩ = some (.int .i64 x5) ∧ W.cell? ⟨q, 6, none⟩ = some (.int .i64 x6)) ∧
         W.cell? ⟨w.heap.size, 1, none⟩ = some (.slice (some ⟨pb, poff, none⟩) pn a.pc) ∧ W.cell? ⟨pb, poff + t, none⟩ = some (.slice (some ⟨b2, off2, none⟩) m c') ∧ W.cell? ⟨b2, off2 + c * 3, none⟩ = some (.int .i64 y0) ∧ W.cell? ⟨b2, off2 + c * 3 + 1, none⟩ = some (.int .i64 obj) ∧ W.cell? ⟨b2, off2 + c * 3 + 2, none⟩ = some (.int .i64 y2) from
         ⟨⟨(cellE (u q (.inl rfl))).trans HBX.out.c0, (cellE (u q (.inl rfl))).trans HBX.out.c1, (cellE (u q (.inl rfl))).trans HBX.out.c2, (cellE (u q (.inl rfl))).trans HBX.out.c3, (cellE (u q (.inl rfl))).trans HBX.out.c4, (cellE (u q (.inl rfl))).trans HBX.out.c5, (cellE (u q (.inl rfl))).trans HBX.out.c6⟩,
          (cellE (u _ (.inr (Nat.le_refl _)))).trans ((HUX.out.cell (cell_lt c1)).trans c1), (cellE (u pb (.inr (Nat.le_of_lt HLP.out.1)))).trans ((HUX.out.cell (cell_lt p0)).trans p0), (cellE (u b2 (.inr (Nat.le_of_lt HLP.out.2)))).trans ((HUX.out.cell (cell_lt k0)).trans k0), (cellE (u b2 (.inr (Nat.le_of_lt HLP.out.2)))).trans ((HUX.out.cell (cell_lt k1)).trans k1), (cellE (u b2 (.inr (Nat.le_of_lt HLP.out.2)))).trans ((HUX.out.cell (cell_lt k2)).trans k2)⟩)
        have HQW := hQ' (show q < W1.heap.size ∧ w.heap.size < W1.heap.size ∧ w.heap.size < q from ⟨cell_lt HBX.out.c0, Nat.lt_of_lt_of_le (cell_lt c1) HUX.out.size, by rw [← hq]; exact cell_lt c1⟩)
        have HSU := hQ' (fun (W : World) (u : Up W1 W) => HSI.out W fun k hk => u.block k (by have := HQW.out; rcases hk with rfl | hk <;> omega))
        have HHE := hQ' hE
        have HBV := hQ' (HV.out.go HUX.out)
        have HJ := hQ' (And.intro hlt hib)
        rw [eA]
        clear hE hT hob0 hcl p0 p1 p2 p3 p4 k0 k1 k2 c1 hce hxe HA hm hpn
        try clear p0
        try clear k0
        try clear k1
        try clear k2
        try clear c1
        try clear eP eC
        go_upto_region 6 with fail
        try simp only [hW1]
        obtain ⟨⟨d0, d1, d2, d3, d4, d5, d6⟩, s1, s2, s3, s4, s5⟩ := HSU.out W1 (Up.refl W1)
        clear e0 e1 e2 e3 e4 e5 e6 HBX
        clear hW1
        go_quiet (fail)
        rename_i nq
        go_upto_region 7 with fail
        clear d0 d1 d2 d3 d4 d5 d6 s1 s2 s3 s4 s5
        have hUN : Up W1 (W1.drewN nq) := (Up.refl W1).drewN nq
        have HWQ := hQ' (show w.heap.size + 1 ≤ (W1.drewN nq).heap.size from by have := (HBV.out.up.trans hUN).size; simpa using this)
        have HX2 : Hid ((W1.drewN nq).ownsRow (w.heap.size + 1) 94 10 (.slice Ae j ce) j xs) := hQ' (own_same HXS.out fun k e => (HUX.out.trans hUN).block k (HXS.out.lt k e).2)
        have HUN := hQ' hUN
        have HBN := hQ' (HBV.out.go hUN)
        clear hUN
        generalize W1.drewN nq = W2 at *
        have hS := HSU.out W2.drew HUN.out.drew
        refine wp_region_held_drew (S := fun W => (W.cell? ⟨q, 0, none⟩ = some (.int .i64 x0) ∧ W.cell? ⟨q, 1, none⟩ = some (.int .i64 x1) ∧ W.cell? ⟨q, 2, none⟩ = some (.int .i64 t) ∧ W.cell? ⟨q, 3, none⟩ = some (.int .i64 c) ∧ W.cell? ⟨q, 4, none⟩ = some (.int .i64 x4) ∧ W.cell? ⟨q, 5, none⟩ = some (.int .i64 x5) ∧ W.cell? ⟨q, 6, none⟩ = some (.int .i64 x6)) ∧
         W.cell? ⟨w.heap.size, 1, none⟩ = some (.slice (some ⟨pb, poff, none⟩) pn a.pc) ∧ W.cell? ⟨pb, poff + t, none⟩ = some (.slice (some ⟨b2, off2, none⟩) m c') ∧ W.cell? ⟨b2, off2 + c * 3, none⟩ = some (.int .i64 y0) ∧ W.cell? ⟨b2, off2 + c * 3 + 1, none⟩ = some (.int .i64 obj) ∧ W.cell? ⟨b2, off2 + c * 3 + 2, none⟩ = some (.int .i64 y2)) (by kernel_rfl) hS (fun hS0 => ?_)
        clear hS
        refine tkE 0 ?_ rfl (by kernel_rfl) (fun _ _ _ h => h) hS0 ?_ ?_
        rotate_left
        · intro w hSw
          try dsimp only at hSw
          go_simp
          try (with_reducible rfl)
        try simp only [Act.put, sC_I, sC_0, sC_1]
        refine tkE 1 ?_ rfl (by kernel_rfl) (fun _ _ _ h => h) hS0 ?_ ?_
        rotate_left
        · intro w hSw
          try dsimp only at hSw
          go_simp
          try (with_reducible rfl)
        try simp only [Act.put, sC_I, sC_0, sC_1]
        refine tkE 2 ?_ rfl (by kernel_rfl) (fun _ _ _ h => h) hS0 ?_ ?_
        rotate_left
        · intro w hSw
          try dsimp only at hSw
          go_simp
          try (with_reducible rfl)
        try simp only [Act.put, sC_I, sC_0, sC_1]
        refine tkE 3 ?_ rfl (by kernel_rfl) (fun _ _ _ h => h) hS0 ?_ ?_
        rotate_left
        · intro w hSw
          try dsimp only at hSw
          go_simp
          try (with_reducible rfl)
        try simp only [Act.put, sC_I, sC_0, sC_1]
        refine tkE 4 ?_ rfl (by kernel_rfl) (fun _ _ _ h => h) hS0 ?_ ?_
        rotate_left
        · intro w hSw
          try dsimp only at hSw
          go_simp
          try (with_reducible rfl)
        try simp only [Act.put, sC_I, sC_0, sC_1]
        refine tkE 5 ?_ rfl (by kernel_rfl) (fun _ _ _ h => h) hS0 ?_ ?_
        rotate_left
        · intro w hSw
          try dsimp only at hSw
          go_simp
          try (with_reducible rfl)
        try simp only [Act.put, sC_I, sC_0, sC_1]
        refine tkE 6 ?_ rfl (by kernel_rfl) (fun _ _ _ h => h) hS0 ?_ ?_
        rotate_left
        · intro w hSw
          try dsimp only at hSw
          go_simp
          try (with_reducible rfl)
        try simp only [Act.put, sC_I, sC_0, sC_1]
        refine tkE 7 ?_ rfl (by kernel_rfl) (fun _ _ _ h => h) hS0 ?_ ?_
        rotate_left
        · intro w hSw
          try dsimp only at hSw
          go_simp
          try (with_reducible rfl)
        try simp only [Act.put, sC_I, sC_0, sC_1]
        refine tkE 8 ?_ rfl (by kernel_rfl) (fun _ _ _ h => h) hS0 ?_ ?_
        rotate_left
        · intro w hSw
          try dsimp only at hSw
          go_simp
          try (with_reducible rfl)
        try simp only [Act.put, sC_I, sC_0, sC_1]
        refine tkE 9 ?_ rfl (by kernel_rfl) (fun _ _ _ h => h) hS0 ?_ ?_
        rotate_left
        · intro w hSw
          try dsimp only at hSw
          go_simp
          try (with_reducible rfl)
        try simp only [Act.put, sC_I, sC_0, sC_1]
        refine tkE 10 ?_ rfl (by kernel_rfl) (fun _ _ _ h => h) hS0 ?_ ?_
        rotate_left
        · intro w hSw
          try dsimp only at hSw
          go_simp
          try (with_reducible rfl)
        try simp only [Act.put, sC_I, sC_0, sC_1]
        refine tkE 11 ?_ rfl (by kernel_rfl) (fun _ _ _ h => h) hS0 ?_ ?_
        rotate_left
        · intro w hSw
          try dsimp only at hSw
          go_simp
          try (with_reducible rfl)
        try simp only [Act.put, sC_I, sC_0, sC_1]
        refine tkE 12 ?_ rfl (by kernel_rfl) (fun _ _ _ h => h) hS0 ?_ ?_
        rotate_left
        · intro w hSw
          try dsimp only at hSw
          go_simp
          try (with_reducible rfl)
        try simp only [Act.put, sC_I, sC_0, sC_1]
        refine rdE 13 (by kernel_rfl) rfl fun K hK => ?_
        go_simp
        refine hK.out _ _ (HSU.out _ ((HUN.out.alloc _).drew)) (fun hS1 => ?_)
        clear hK K
        try simp only [Act.put, sC_I, sC_0, sC_1]
        refine rdE 14 (by kernel_rfl) rfl fun K hK => ?_
        refine step_append_lies _ rfl (.tmp 63) (.tmp 76) 90 rfl (w.heap.size + 1) 94 i0 (.agg #[.int .i64 0, .int .i64 0, .int .i64 0, .int .i64 0, .int .i64 0, .int .i64 0, .int .i64 0, .int .i64 0, .int .i64 0, .int .i64 0]) 10 80 Tryz.underlying90 HIE.out HZ0.out HZ1.out HZ2.out rfl (by decide) _ j xs rfl (own_same HX2.out fun k e => ((Up.refl W2).alloc _).drew.block k (HX2.out.lt k e).2) ⟨W2.heap.size, 0, none⟩ 1 1 [.int .i64 x0, .int .i64 x1, .int .i64 t, .int .i64 c, .int .i64 x4, .int .i64 x5, .int .i64 x6, .int .i64 y0, .int .i64 obj, .int .i64 y2] rfl rfl (news1 W2 _ _) (by simp [Value.oneCell']) (by decide) (by have := HJ.out; have := HJI.out; unfold maxLen; omega) (by have := HJ.out; have := HJI.out; omega) (by have := HWQ.out; simp; omega) _ rfl ?_
        intro g5 cap5 w5 hown5 hg5 hat5 hlt5
        have hB5 : Below (w.heap.size + 1) W2 w5 := Below.trans (((Up.refl W2).alloc _).drew.mono HWQ.out) (grownBy_below hg5 (by have := HWQ.out; simp; omega) (own_ge HX2.out))
        have HK5 := hQ' (fun k (hk : k = q ∨ k ≤ w.heap.size) => show w5.heap[k]? = W1.heap[k]? from by
         have hq := HQW.out
         have hk1 : k < W1.heap.size := by rcases hk with rfl | hk <;> omega
         have hk2 : k < W2.heap.size := Nat.lt_of_lt_of_le hk1 HUN.out.size
         refine (hg5.block k (by simp; omega) (fun e => ?_)).trans ((((Up.refl W2).alloc _).drew.block k hk2).trans (HUN.out.block k hk1))
         have h1 := HXS.out.lt k e.symm
         rw [HQE.out] at h1
         rcases hk with rfl | hk <;> omega)
        have HB5 : Hid (BoxS w w5 (scrA sc a)) := hQ' ⟨Below.trans HBN.out.up (by simpa using hB5)⟩
        have HE5 : Hid (ActRow w5 (w.heap.size + 1) (.slice (some ⟨g5, 0, none⟩) (j + 1) cap5) (actsOb sc.progs obj (l.take (i + 1)))) := hQ' (by
         rw [HTI.out, HAE.out]
         refine ActRow.push HLI.out ?_
         rw [HXE.out]
         exact own_base hown5 (Nat.le_refl _))
        clear hown5 hg5 hat5 hlt5 hB5
        refine hK.out _ _ (HSI.out _ HK5.out) (fun hS2 => ?_)
        clear hK K
        try simp only [Act.put, sC_I, sC_0, sC_1]
        refine tkE 15 ?_ rfl (by kernel_rfl) (fun _ _ _ h => h) hS2 ?_ ?_
        rotate_left
        · intro w hSw
          try dsimp only at hSw
          go_simp
          try (with_reducible rfl)
        try simp only [Act.put, sC_I, sC_0, sC_1]
        refine wpAnyH_done (by kernel_rfl) ?_ _
        try simp only [Act.put, sC_I, sC_0, sC_1, List.getElem_toArray, List.getElem_cons_succ, List.getElem_cons_zero]
        clear hS0 hS1 hS2
        go_wp2_with fail
        go_roundw
        case rel => refine ⟨i + 1, HJ.out.1, ?_⟩; first | exact HE5 | exact ⟨HE5, HB5⟩ | exact ⟨by first | rfl | go_num, HE5⟩ | exact ⟨by first | rfl | go_num, HE5, HB5⟩
        case measure => have := HJ.out.1; simp [intOf]; omega
      · as_aux_lemma =>
         have HTI := hQ' (show actsOb sc.progs obj (l.take (i + 1)) = actsOb sc.progs obj (l.take i) from by rw [HTK.out i hlt, if_neg (by rw [actIn_is hT, decide_eq_false hob0]; simp), List.append_nil])
         obtain ⟨pb, poff, A', c', eP, p0, p1, p2, p3, p4⟩ := HS.out.pr t hT.tn
         obtain ⟨b2, off2, eC, k0, k1, k2⟩ := p1 c hcl
         have hlp := cell_lt p0
         have p0 := (HV.out.w.cell hlp).trans p0
         have k1 := (HV.out.w.cell (cell_lt k1)).trans k1
         have HLP := hQ' hlp
         clear hlp
         have h1 := hT.ht
         have h2 := hT.hc
         have htn : (t : Int) < sc.progs.length := by have := hT.tn; omega
         have hcn : (c : Int) < (sc.progs.getD t []).length := by omega
         have ht0 : (0 : Int) ≤ t := by omega
         have hc0 : (0 : Int) ≤ c := by omega
         have c1 := HBB.out _ HV.out
         obtain ⟨m, hm⟩ : ∃ m, (sc.progs.getD t []).length = m := ⟨_, rfl⟩
         obtain ⟨pn, hpn⟩ : ∃ m, sc.progs.length = m := ⟨_, rfl⟩
         rw [hm] at p0 p2 hcn
         rw [hpn] at htn c1
         rw [eP] at c1
         rw [eC] at p0
         generalize (sc.progs.getD t []).getD c (0, 0, 0) = cd at *
         obtain ⟨y0, y1, y2⟩ := cd
         dsimp only at k1 hob0
         have hyo : (y1 == obj) = false := by simpa using hob0
         generalize l.getD i ev0 = ev at *
         obtain ⟨x0, x1, x2, x3, x4, x5, x6⟩ := ev
         have h1 : x2 = (t : Int) := h1
         have h2 : x3 = (c : Int) := h2
         subst h1 h2
         try clear h1
         try clear h2
         have HBX := hQ' (ev_box wr ⟨x0, x1, t, c, x4, x5, x6⟩ 60)
         have HUX := hQ' ((Up.refl wr).alloc (.cells (evA ⟨x0, x1, t, c, x4, x5, x6⟩) 60))
         unfold evA at HBX HUX
         dsimp only at HBX HUX
         obtain ⟨W1, hW1⟩ : ∃ x, wr.alloc (.cells #[.int .i64 x0, .int .i64 x1, .int .i64 t, .int .i64 c, .int .i64 x4, .int .i64 x5, .int .i64 x6] 60) = x := ⟨_, rfl⟩
         obtain ⟨e0, e1, e2, e3, e4, e5, e6⟩ := hx
         dsimp only at e0 e1 e2 e3 e4 e5 e6
         obtain ⟨q, hq⟩ : ∃ q, wr.heap.size = q := ⟨_, rfl⟩
         rw [hW1, hq] at HBX
         rw [hW1] at HUX
         have HSU := hQ' (fun (W : World) (u : Up W1 W) => show (W.cell? ⟨q, 2, none⟩ = some (.int .i64 t) ∧ W.cell? ⟨q, 3, none⟩ = some (.int .i64 c)) ∧ W.cell? ⟨w.heap.size, 1, none⟩ = some (.slice (some ⟨pb, poff, none⟩) pn a.pc) ∧ W.cell? ⟨pb, poff + t, none⟩ = some (.slice (some ⟨b2, off2, none⟩) m c') ∧ W.cell? ⟨b2, off2 + c * 3 + 1, none⟩ = some (.int .i64 y1) from
          ⟨⟨(u.cell (cell_lt HBX.out.c2)).trans HBX.out.c2, (u.cell (cell_lt HBX.out.c3)).trans HBX.out.c3⟩, ((HUX.out.trans u).cell (cell_lt c1)).trans c1, ((HUX.out.trans u).cell (cell_lt p0)).trans p0, ((HUX.out.trans u).cell (cell_lt k1)).trans k1⟩)
         have HBV := hQ' (HV.out.go HUX.out)
         have HAX : Hid (ActRow W1 (w.heap.size + 1) u7 (actsOb sc.progs obj (l.take (i + 1)))) := hQ' (by rw [HTI.out]; exact own_same HA.out fun k e => HUX.out.block k (World.ownsRow.lt HA.out k e).2)
         have HJ := hQ' (And.intro hlt hib)
         rw [eA]
         clear hT p0 p1 p2 p3 p4 c1 HA hm hpn hcl k0 k1 k2
         go_upto_region 6 with fail
         try simp only [hW1]
         obtain ⟨⟨d2, d3⟩, s1, s2, s3⟩ := HSU.out W1 (Up.refl W1)
         clear e0 e1 e2 e3 e4 e5 e6 HBX
         clear hW1
         go_quiet (fail)
         rename_i nq
         clear d2 d3 s1 s2 s3
         have hUN : Up W1 (W1.drewN nq) := (Up.refl W1).drewN nq
         have HB5 := hQ' (HBV.out.go hUN)
         have HE5 : Hid (ActRow (W1.drewN nq) (w.heap.size + 1) u7 (actsOb sc.progs obj (l.take (i + 1)))) := hQ' (own_same HAX.out fun k e => hUN.block k (World.ownsRow.lt HAX.out k e).2)
         clear hUN
         generalize W1.drewN nq = W2 at *
         go_wp2_with fail
         go_roundw
         case rel => refine ⟨i + 1, HJ.out.1, ?_⟩; first | exact HE5 | exact ⟨HE5, HB5⟩ | exact ⟨by first | rfl | go_num, HE5⟩ | exact ⟨by first | rfl | go_num, HE5, HB5⟩
         case measure => have := HJ.out.1; simp [intOf]; omega
    · as_aux_lemma =>
       have HTI := hQ' (show actsOb sc.progs obj (l.take (i + 1)) = actsOb sc.progs obj (l.take i) from by rw [HTK.out i hlt, if_neg (by rw [actIn_is hT, decide_eq_false (show ¬ c < (sc.progs.getD t []).length by omega)]; simp), List.append_nil])
       obtain ⟨pb, poff, A', c', eP, p0, p1, p2, p3, p4⟩ := HS.out.pr t hT.tn
       have hlp := cell_lt p0
       have p0 := (HV.out.w.cell hlp).trans p0
       have HLP := hQ' hlp
       clear hlp
       have h1 := hT.ht
       have h2 := hT.hc
       have htn : (t : Int) < sc.progs.length := by have := hT.tn; omega
       have hcn : ¬ (c : Int) < (sc.progs.getD t []).length := by omega
       have ht0 : (0 : Int) ≤ t := by omega
       have hc0 : (0 : Int) ≤ c := by omega
       have c1 := HBB.out _ HV.out
       obtain ⟨m, hm⟩ : ∃ m, (sc.progs.getD t []).length = m := ⟨_, rfl⟩
       obtain ⟨pn, hpn⟩ : ∃ m, sc.progs.length = m := ⟨_, rfl⟩
       rw [hm] at p0 p2 hcn
       rw [hpn] at htn c1
       rw [eP] at c1
       generalize l.getD i ev0 = ev at *
       obtain ⟨x0, x1, x2, x3, x4, x5, x6⟩ := ev
       have h1 : x2 = (t : Int) := h1
       have h2 : x3 = (c : Int) := h2
       subst h1 h2
       try clear h1
       try clear h2
       have HBX := hQ' (ev_box wr ⟨x0, x1, t, c, x4, x5, x6⟩ 60)
       have HUX := hQ' ((Up.refl wr).alloc (.cells (evA ⟨x0, x1, t, c, x4, x5, x6⟩) 60))
       unfold evA at HBX HUX
       dsimp only at HBX HUX
       obtain ⟨W1, hW1⟩ : ∃ x, wr.alloc (.cells #[.int .i64 x0, .int .i64 x1, .int .i64 t, .int .i64 c, .int .i64 x4, .int .i64 x5, .int .i64 x6] 60) = x := ⟨_, rfl⟩
       obtain ⟨e0, e1, e2, e3, e4, e5, e6⟩ := hx
       dsimp only at e0 e1 e2 e3 e4 e5 e6
       obtain ⟨q, hq⟩ : ∃ q, wr.heap.size = q := ⟨_, rfl⟩
       rw [hW1, hq] at HBX
       rw [hW1] at HUX
       have HSU := hQ' (fun (W : World) (u : Up W1 W) => show (W.cell? ⟨q, 2, none⟩ = some (.int .i64 t) ∧ W.cell? ⟨q, 3, none⟩ = some (.int .i64 c)) ∧ W.cell? ⟨w.heap.size, 1, none⟩ = some (.slice (some ⟨pb, poff, none⟩) pn a.pc) ∧ W.cell? ⟨pb, poff + t, none⟩ = some (.slice A' m c') from
        ⟨⟨(u.cell (cell_lt HBX.out.c2)).trans HBX.out.c2, (u.cell (cell_lt HBX.out.c3)).trans HBX.out.c3⟩, ((HUX.out.trans u).cell (cell_lt c1)).trans c1, ((HUX.out.trans u).cell (cell_lt p0)).trans p0⟩)
       have HBV := hQ' (HV.out.go HUX.out)
       have HAX : Hid (ActRow W1 (w.heap.size + 1) u7 (actsOb sc.progs obj (l.take (i + 1)))) := hQ' (by rw [HTI.out]; exact own_same HA.out fun k e => HUX.out.block k (World.ownsRow.lt HA.out k e).2)
       have HJ := hQ' (And.intro hlt hib)
       rw [eA]
       clear hT p0 p1 p2 p3 p4 c1 HA hm hpn hcl
       go_upto_region 6 with fail
       try simp only [hW1]
       obtain ⟨⟨d2, d3⟩, s1, s2⟩ := HSU.out W1 (Up.refl W1)
       clear e0 e1 e2 e3 e4 e5 e6 HBX
       clear hW1
       go_quiet (fail)
       rename_i nq
       clear d2 d3 s1 s2
       have hUN : Up W1 (W1.drewN nq) := (Up.refl W1).drewN nq
       have HB5 := hQ' (HBV.out.go hUN)
       have HE5 : Hid (ActRow (W1.drewN nq) (w.heap.size + 1) u7 (actsOb sc.progs obj (l.take (i + 1)))) := hQ' (own_same HAX.out fun k e => hUN.block k (World.ownsRow.lt HAX.out k e).2)
       clear hUN
       generalize W1.drewN nq = W2 at *
       go_wp2_with fail
       go_roundw
       case rel => refine ⟨i + 1, HJ.out.1, ?_⟩; first | exact HE5 | exact ⟨HE5, HB5⟩ | exact ⟨by first | rfl | go_num, HE5⟩ | exact ⟨by first | rfl | go_num, HE5, HB5⟩
       case measure => have := HJ.out.1; simp [intOf]; omega
  · have hie : i = n := by omega
    subst hie
    have hnl : ¬ ((i : Int) < i) := by omega
    have HVE := hQ' HV.out.w
    have HAE : Hid (ActRow wr w.heap.size u7 (actsOb sc.progs obj l)) := hQ' (by rw [← HTE.out]; exact own_base HA.out (Nat.le_succ _))
    clear HV HA
    go_wp2_with fail
    go_ret
    exact ⟨⟨_, rfl, HAE.out⟩, HVE.out⟩
end Go.Proofs.YtpodgcpkccpnfaaGreat

namespace Go.Proofs.YtpodgcpkccpnfaaGreat
open Go.RowKit
theorem fold_filter {α β : Type} {p : α → Bool} {st : β → α → β} : ∀ (l : List α) (k : β), (∀ a, a ∈ l → p a = false → ∀ k, st k a = k) → (l.filter p).foldl st k = l.foldl st k
 | [], k, _ => rfl
 | a :: l, k, h => by
  by_cases hp : p a = true
  · rw [List.filter_cons_of_pos hp]
    exact fold_filter l _ fun b hb => h b (List.mem_cons_of_mem _ hb)
  · rw [List.filter_cons_of_neg hp, List.foldl_cons, h a (.head _) (by simpa using hp)]
    exact fold_filter l k fun b hb => h b (List.mem_cons_of_mem _ hb)
theorem filter_take {α : Type} {p : α → Bool} : ∀ (l : List α) (m : Nat), ∃ q, q ≤ l.length ∧ (l.filter p).take m = (l.take q).filter p
 | [], m => ⟨0, Nat.le_refl _, by simp⟩
 | a :: l, 0 => ⟨0, Nat.zero_le _, by simp⟩
 | a :: l, m + 1 => by
  by_cases hp : p a = true
  · obtain ⟨q, h1, h2⟩ := filter_take l m
    refine ⟨q + 1, by simp; omega, ?_⟩
    rw [List.filter_cons_of_pos hp, List.take_succ_cons, List.take_succ_cons, List.filter_cons_of_pos hp, h2]
  · obtain ⟨q, h1, h2⟩ := filter_take l (m + 1)
    refine ⟨q + 1, by simp; omega, ?_⟩
    rw [List.filter_cons_of_neg hp, List.take_succ_cons, List.filter_cons_of_neg hp, h2]
theorem filter_get {α : Type} {p : α → Bool} : ∀ (l : List α) (i : Nat) (a : α), (l.filter p)[i]? = some a → ∃ q, l[q]? = some a ∧ (l.filter p).take i = (l.take q).filter p
 | [], i, a, h => by simp at h
 | b :: l, i, a, h => by
  by_cases hp : p b = true
  · rw [List.filter_cons_of_pos hp] at h ⊢
    cases i with
    | zero => exact ⟨0, h, by simp⟩
    | succ i =>
     obtain ⟨q, h1, h2⟩ := filter_get l i a h
     exact ⟨q + 1, h1, by rw [List.take_succ_cons, List.take_succ_cons, List.filter_cons_of_pos hp, h2]⟩
  · rw [List.filter_cons_of_neg hp] at h ⊢
    obtain ⟨q, h1, h2⟩ := filter_get l i a h
    exact ⟨q + 1, h1, by rw [List.take_succ_cons, List.filter_cons_of_neg hp, h2]⟩
theorem filter_lt {α : Type} {p : α → Bool} {l : List α} {i k q r : Nat} {a b : α} (hi : (l.filter p)[i]? = some a) (hk : (l.filter p)[k]? = some b) (h1 : (l.filter p).take i = (l.take q).filter p) (h2 : (l.filter p).take k = (l.take r).filter p) (h : k < i) : r < q := by
 have li := (List.getElem?_eq_some_iff.1 hi).1
 have lk := (List.getElem?_eq_some_iff.1 hk).1
 have e1 := congrArg List.length h1
 have e2 := congrArg List.length h2
 rw [List.length_take, Nat.min_eq_left (Nat.le_of_lt li)] at e1
 rw [List.length_take, Nat.min_eq_left (Nat.le_of_lt lk)] at e2
 rcases Nat.lt_or_ge r q with g | g
 · exact g
 · have : ((l.take q).filter p).length ≤ ((l.take r).filter p).length := (((List.take_prefix_take_left g).sublist).filter p).length_le
   omega
section
variable {progs : List (List CD)} {obj : Int} {l : List EvD}
theorem actsOb_take (m : Nat) : ∃ q, q ≤ l.length ∧ (actsOb progs obj l).take m = actsOf progs ((l.take q).filter (actIn progs obj)) := by
 obtain ⟨q, h1, h2⟩ := filter_take (p := actIn progs obj) l m
 refine ⟨q, h1, ?_⟩
 unfold actsOb actsOf
 rw [← List.map_take, h2]
theorem hasP_ob (ho : ∀ e, e ∈ l → actIn progs obj e = false → e.kind = 4) (q : Nat) (t : Int) (read : Bool) : hasP (actsOf progs ((l.take q).filter (actIn progs obj))) t read = hasP (actsOf progs (l.take q)) t read := by
 unfold hasP actsOf
 rw [List.foldl_map, List.foldl_map]
 refine fold_filter _ _ fun e he hp k => ?_
 have hk := ho e (List.mem_of_mem_take he) hp
 unfold hasStep hasDn hasUp actOf
 dsimp only
 rw [hk]
 simp
theorem waitsP_ob (ho : ∀ e, e ∈ l → actIn progs obj e = false → e.kind = 4) (q : Nat) (t c : Int) : waitsP (actsOf progs ((l.take q).filter (actIn progs obj))) t c = waitsP (actsOf progs (l.take q)) t c := by
 unfold waitsP actsOf
 rw [List.foldl_map, List.foldl_map]
 refine fold_filter _ _ fun e he hp k => ?_
 have hk := ho e (List.mem_of_mem_take he) hp
 unfold waitsStep actOf
 dsimp only
 rw [hk]
 simp
theorem excl_ob {n : Nat} (ho : ∀ e, e ∈ l → actIn progs obj e = false → e.kind = 4) (h : ExclP (actsOf progs l) n) : ExclP (actsOb progs obj l) n := fun m hm => by
 obtain ⟨q, h1, h2⟩ := actsOb_take (progs := progs) (obj := obj) (l := l) m
 have := h q (by unfold actsOf; rw [List.length_map]; exact h1)
 have e : (fun p : Nat => hasP ((actsOb progs obj l).take m) p false) = fun p : Nat => hasP ((actsOf progs l).take q) p false := by
  funext p
  rw [h2, hasP_ob ho]
  unfold actsOf
  rw [List.map_take]
 rw [e]; exact this
theorem doors_ob (ho : ∀ e, e ∈ l → actIn progs obj e = false → e.kind = 4) (h : DoorsP (actsOf progs l)) : DoorsP (actsOb progs obj l) := fun i a hi h1 h2 h3 k b hki hk hc p c hp hne => by
 have hof : ∀ (i : Nat) (a : ActD), (actsOb progs obj l)[i]? = some a → ∃ e, (l.filter (actIn progs obj))[i]? = some e ∧ actOf progs e = a := fun i a hi => by
  unfold actsOb actsOf at hi
  rw [List.getElem?_map] at hi
  cases he : (l.filter (actIn progs obj))[i]? with
  | none => rw [he] at hi; cases hi
  | some e => rw [he] at hi; cases hi; exact ⟨e, rfl, rfl⟩
 obtain ⟨e, he, rfl⟩ := hof i a hi
 obtain ⟨f, hf, rfl⟩ := hof k b hk
 obtain ⟨q, q1, q2⟩ := filter_get _ _ _ he
 obtain ⟨r, r1, r2⟩ := filter_get _ _ _ hf
 have hrq := filter_lt he hf q2 r2 hki
 have g1 : (actsOf progs l)[q]? = some (actOf progs e) := by unfold actsOf; rw [List.getElem?_map, q1]; rfl
 have g2 : (actsOf progs l)[r]? = some (actOf progs f) := by unfold actsOf; rw [List.getElem?_map, r1]; rfl
 have := h q _ g1 h1 h2 h3 r _ hrq g2 hc p c hp hne
 have t1 : ∀ m x, (l.filter (actIn progs obj)).take m = (l.take x).filter (actIn progs obj) → waitsP ((actsOb progs obj l).take m) p c = waitsP ((actsOf progs l).take x) p c := fun m x e => by
  unfold actsOb
  rw [show (actsOf progs (l.filter (actIn progs obj))).take m = actsOf progs ((l.filter (actIn progs obj)).take m) by unfold actsOf; rw [List.map_take], e, waitsP_ob ho]
  unfold actsOf; rw [List.map_take]
 rw [t1 k r r2, t1 i q q2]
 exact this
end
end Go.Proofs.YtpodgcpkccpnfaaGreat

namespace Go.Proofs.YtpodgcpkccpnfaaGreat
open Go.RowKit
section
variable {M : MD} {progs : List (List CD)} {H : List Atom} {C : Nat → List GC} {mine : Int} {acq : Nat → Op Int} {rel : Nat → Op Unit}
theorem vis_note {A : Atom} {e : EvD} (h : vis A = some e) (hk : e.kind = 3) : A.w = .note e.val := by
 unfold vis at h
 cases hw : A.w <;> rw [hw] at h <;> cases h <;> first | rfl | (simp at hk)
theorem vis_iscall {A : Atom} {e : EvD} (h : vis A = some e) (hk : e.kind = 1) : A.w = .call := by
 unfold vis at h
 cases hw : A.w <;> rw [hw] at h <;> cases h <;> first | rfl | (simp at hk)
theorem vis_isret {A : Atom} {e : EvD} (h : vis A = some e) (hk : e.kind = 2) : ∃ x y, A.w = .ret x y ∧ e.err = x := by
 unfold vis at h
 cases hw : A.w <;> rw [hw] at h <;> cases h <;> first | exact ⟨_, _, rfl, rfl⟩ | (simp at hk)
def waitsQ (progs : List (List CD)) (H : List Atom) (p c : Int) (q : Nat) : Bool := waitsP (actsOf progs ((H.take q).filterMap vis)) p c
theorem waitsQ_succ (progs : List (List CD)) {H : List Atom} {q : Nat} {A : Atom} (h : H[q]? = some A) (p c : Int) : waitsQ progs H p c (q + 1) = match vis A with | none => waitsQ progs H p c q | some e => waitsStep p c (waitsQ progs H p c q) (e, callAt progs A.t A.i) := by
 unfold waitsQ waitsP actsOf
 rw [take_snoc h, List.filterMap_append, List.map_append, List.foldl_append]
 cases hv : vis A with
 | none => rw [List.filterMap_cons_none hv]; rfl
 | some e => rw [List.filterMap_cons_some hv]; simp [actOf_vis progs hv]
structure WaitAt (progs : List (List CD)) (H : List Atom) (p c : Int) (q r : Nat) (A : Atom) : Prop where
 lt : r < q
 at' : H[r]? = some A
 t : (A.t : Int) = p
 i : (A.i : Int) = c
 w : A.w = .note 2
 op : (callAt progs A.t A.i).1 = 1
 none : ∀ x B, r < x → x < q → H[x]? = some B → B.t = A.t → B.i = A.i → B.w ≠ .note 3
theorem waitsQ_inv (hL : Logs M progs H C) (p c : Int) : ∀ q, q ≤ H.length → waitsQ progs H p c q = true → ∃ r A, WaitAt progs H p c q r A
 | 0, _, h => by cases h
 | q + 1, hq, h => by
  have ih := waitsQ_inv hL p c q (by omega)
  obtain ⟨A, hA⟩ : ∃ A, H[q]? = some A := ⟨H[q], List.getElem?_eq_getElem (by omega)⟩
  rw [waitsQ_succ progs hA] at h
  have more : waitsQ progs H p c q = true → (∀ A' : Atom, (A'.t : Int) = p → (A'.i : Int) = c → (callAt progs A'.t A'.i).1 = 1 → A.t = A'.t → A.i = A'.i → A.w ≠ .note 3) → ∃ r A, WaitAt progs H p c (q + 1) r A := fun h1 h2 => by
   obtain ⟨r, A', g⟩ := ih h1
   refine ⟨r, A', by have := g.lt; omega, g.at', g.t, g.i, g.w, g.op, fun x B hx1 hx2 hB e1 e2 => ?_⟩
   rcases Nat.lt_or_ge x q with h3 | h3
   · exact g.none x B hx1 h3 hB e1 e2
   · obtain rfl : x = q := by omega
     rw [hA] at hB; cases hB
     exact h2 A' g.t g.i g.op e1 e2
  cases hv : vis A with
  | none =>
   rw [hv] at h
   exact more h fun A' _ _ _ _ _ hw => by unfold vis at hv; rw [hw] at hv; cases hv
  | some e =>
   rw [hv] at h
   obtain ⟨v1, v2⟩ := vis_call hv
   have h : waitsStep p c (waitsQ progs H p c q) (e, callAt progs A.t A.i) = true := h
   unfold waitsStep at h
   by_cases hc : e.thread = p ∧ e.call = c ∧ e.kind = 3 ∧ (callAt progs A.t A.i).1 = 1
   · rw [if_pos hc] at h
     have hw : A.w = .note e.val := vis_note hv hc.2.2.1
     have h : (if e.val = 3 ∨ e.val = 4 then false else if e.val = 2 then true else waitsQ progs H p c q) = true := h
     split at h
     · cases h
     · rename_i hv34
       split at h
       · rename_i hv2
         refine ⟨q, A, by omega, hA, by rw [← v1]; exact hc.1, by rw [← v2]; exact hc.2.1, by rw [hw, hv2], hc.2.2.2, fun x B hx1 hx2 => by omega⟩
       · exact more h fun A' _ _ _ _ _ hw3 => by
          rw [hw] at hw3
          simp only [What.note.injEq] at hw3
          exact hv34 (.inl hw3)
   · rw [if_neg hc] at h
     refine more h fun A' ht hi hop e1 e2 hw => hc ⟨?_, ?_, ?_, ?_⟩
     · rw [v1, e1]; exact ht
     · rw [v2, e2]; exact hi
     · unfold vis at hv; rw [hw] at hv; cases hv; rfl
     · rw [e1, e2]; exact hop
theorem even_op (hL : Logs M progs H C) (hO : Ops12 progs) {t i : Nat} (ht : t < progs.length) {c : GC} (hc : (C t)[i]? = some c) (h : (callAt progs t i).1 = 1) : i % 2 = 0 := by
 have := hO t i ht (hL.call t ht i c hc).lt
 rw [h] at this
 split at this
 · assumption
 · cases this
theorem known_items (hL : Logs M progs H C) {t i : Nat} (ht : t < progs.length) {c : GC} (hc : (C t)[i]? = some c) : Known c.items := fun a b e x hm => ((hL.call t ht i c hc).acc a b e x hm).2.1
variable {room base loc : Int} {F : Nat}
theorem bakT_alt (n : Nat) (room base loc : Int) (F : Nat) : bakT n room base loc F = altT (fun t => bakAcq n room base loc t F) (fun t => bakRel n base loc t) := rfl
theorem doors_of (hL : Logs M progs H C) (hA : Alt M progs mine (fun t => bakAcq progs.length room base loc t F) (fun t => bakRel progs.length base loc t)) (hO : Ops12 progs) (hC : BakCells M progs.length room base) : DoorsP (actsOf progs (H.filterMap vis)) := by
 have hG : Segs progs C (bakT progs.length room base loc F) (bakCells progs.length base) H.length (altG mine C) := by rw [bakT_alt]; exact alt_segs hL hA _
 intro i a hi hop hkd hval k b hk hb hcall p c hp hne hw
 unfold actsOf at hi hb hw
 rw [List.getElem?_map] at hi hb
 obtain ⟨e, he, rfl⟩ := Option.map_eq_some_iff.1 hi
 obtain ⟨e', he', rfl⟩ := Option.map_eq_some_iff.1 hb
 obtain ⟨q, A, hA1, hA2, hA3⟩ := fm_get he
 obtain ⟨r, B, hB1, hB2, hB3⟩ := fm_get he'
 rw [actOf_vis progs hA2] at hop hkd hval hne hcall
 rw [actOf_vis progs hB2] at hcall
 dsimp only at hop hkd hval hne hcall
 obtain ⟨v1, v2⟩ := vis_call hA2
 obtain ⟨u1, u2⟩ := vis_call hB2
 obtain ⟨hAt, hAc⟩ := hL.cov q A hA1
 obtain ⟨hBt, hBc⟩ := hL.cov r B hB1
 have hAw : A.w = .note 3 := (vis_note hA2 hkd).trans (congrArg What.note hval)
 have hBw : B.w = .call := vis_iscall hB2 hcall.1
 rcases hAc with h | ⟨d, hd, hdn⟩
 · rw [hAw] at h; cases h
 rw [hAw] at hdn
 have hdn : Item.note 3 q ∈ d.items := hdn
 have ht1 : B.t = A.t := by have := hcall.2.1; omega
 have hi1 : B.i = A.i := by have := hcall.2.2; omega
 rcases hBc with h | ⟨d', hd', hdn'⟩
 · rw [hBw] at h; cases h
 rw [hBw] at hdn'
 have hdn' : r = d'.p0 := hdn'
 rw [ht1, hi1, hd] at hd'
 cases hd'
 have hie := even_op hL hO hAt hd hop
 obtain ⟨ks, hs, -⟩ := segs_of (b := altSeg mine) (i := 0) hd (by rw [Nat.zero_add]; exact altSeg_even hie)
 rw [← List.map_take, ← List.map_take, hA3, hB3] at hw
 have hq : q ≤ H.length := Nat.le_of_lt (List.getElem?_eq_some_iff.1 hA1).1
 have hr : r ≤ H.length := Nat.le_of_lt (List.getElem?_eq_some_iff.1 hB1).1
 obtain ⟨r1, A1, w1⟩ := waitsQ_inv hL p c r hr hw.1
 obtain ⟨r2, A2, w2⟩ := waitsQ_inv hL p c q hq hw.2
 have et : A2.t = A1.t := by have := w1.t; have := w2.t; omega
 have ei : A2.i = A1.i := by have := w1.i; have := w2.i; omega
 obtain ⟨g1, g2⟩ := hL.cov r1 A1 w1.at'
 obtain ⟨-, g4⟩ := hL.cov r2 A2 w2.at'
 rcases g2 with h | ⟨f, hf, hfn⟩
 · rw [w1.w] at h; cases h
 rw [w1.w] at hfn
 have hfn : Item.note 2 r1 ∈ f.items := hfn
 rcases g4 with h | ⟨f', hf', hfn'⟩
 · rw [w2.w] at h; cases h
 rw [w2.w] at hfn'
 have hfn' : Item.note 2 r2 ∈ f'.items := hfn'
 rw [et, ei, hf] at hf'
 cases hf'
 have hje := even_op hL hO g1 hf w1.op
 obtain ⟨js, hs', -⟩ := segs_of (b := altSeg mine) (i := 0) hf (by rw [Nat.zero_add]; exact altSeg_even hje)
 have hne2 : A1.t ≠ A.t := fun h => hne (by rw [v1, ← h]; exact w1.t.symm)
 refine bak_doors hL hG hC hAt g1 hne2 hs hs' rfl rfl (p2' := r1) (p3 := q) hfn (by rw [← hdn']; exact w1.lt) hdn fun x hx => ?_
 have hx : Item.note 3 x ∈ f.items := hx
 obtain ⟨now, hHx⟩ := (hL.call A1.t g1 A1.i f hf).note 3 x hx
 rcases Nat.lt_trichotomy x q with h | h | h
 · exfalso
   have hrx : r2 < x := by
    rcases bak_in hL hG g1 hs' rfl with ⟨T, p1, b1, e1, Lr, b2, e2, b3, e3, p2, Lw, hB, hv⟩ | ⟨_, hno, _⟩
    · have hsq := hG.seq A1.t js _ g1 hs'
      obtain ⟨o1, o2, o3, o4, o5, o6, o7, o8, o9, o10, o11, o12⟩ := hB.order hsq
      obtain ⟨x1, x2, x3, heq⟩ := hB.eq
      have hxw : Item.note 3 x ∈ Lw := by
       have hx : Item.note 3 x ∈ f.items := hx
       rw [show f.items = _ from heq] at hx
       rcases List.mem_cons.1 hx with g | g
       · cases g
       rcases List.mem_cons.1 g with g | g
       · cases g
       rcases List.mem_append.1 g with g | g
       · rcases hB.rr _ g with ⟨_, _, _, _, _, h⟩ | ⟨_, _, h, h'⟩
         · cases h
         · cases h'
       rcases List.mem_cons.1 g with g | g
       · cases g
       rcases List.mem_cons.1 g with g | g
       · cases g
       rcases List.mem_cons.1 g with g | g
       · cases g
       exact g
      obtain ⟨L1, hL1⟩ := hB.last x hxw
      have hlast : lastP f.p0 f.items = x := by
       rw [show f.items = _ from heq, hL1]
       show lastP e1 (Lr ++ (.acc _ b2 e2 x2 :: .acc _ b3 e3 x3 :: .note 2 p2 :: (L1 ++ [.note 3 x]))) = x
       rw [lastP_append]
       show lastP p2 (L1 ++ [.note 3 x]) = x
       rw [lastP_append]; rfl
      have := (hL.call A1.t g1 A1.i f hf).seq.note hfn'
      rw [hlast] at this
      rcases Nat.lt_or_ge r2 x with h9 | h9
      · exact h9
      · exfalso
        have h10 : r2 = x := by omega
        have h11 := w2.at'
        rw [h10, hHx] at h11
        have h12 := w2.w
        cases h11
        cases h12
    · exact absurd hx (hno x)
   exact w2.none x _ hrx h hHx et.symm ei.symm rfl
 · exfalso
   subst h
   rw [hA1] at hHx
   cases hHx
   exact hne2 rfl
 · exact h
theorem errs_of (hL : Logs M progs H C) (hA : Alt M progs mine acq rel) (hq : ∀ t l L v l', Known L → Path (acq t) l L (.ret v) l' → v = 0 ∨ v = 11) : ErrsP (H.filterMap vis) := by
 intro e he hk herr
 obtain ⟨A, hA1, hA2⟩ := List.mem_filterMap.1 he
 obtain ⟨q, hq1⟩ := List.getElem?_of_mem hA1
 obtain ⟨v1, v2⟩ := vis_call hA2
 obtain ⟨hAt, hAc⟩ := hL.cov q A hq1
 obtain ⟨x, y, hw, hx⟩ := vis_isret hA2 hk
 rcases hAc with h | ⟨d, hd, hdn⟩
 · rw [hw] at h; cases h
 rw [hw] at hdn
 have hdn : d.res = some (q, x, y) := hdn
 have hdc := hL.call A.t hAt A.i d hd
 obtain ⟨o, l, hp, hr⟩ := hdc.path
 obtain ⟨rfl, hout⟩ := hr q x y hdn
 rw [hA.call A.t A.i hAt hdc.lt] at hp
 have hm := alt_mine hL hA hAt A.i d hd
 rw [hx] at herr ⊢
 rw [v2]
 refine ⟨fun h => ?_, fun h => ?_⟩
 · have h : A.i % 2 = 0 := by omega
   rw [if_pos h] at hp
   obtain ⟨o1, l1, q1, q2⟩ := acq_path hA.hm (hA.ka A.t) hp (by rw [hm.1 h]; decide)
   obtain ⟨rfl, _⟩ := q2 x y rfl
   exact (hq _ _ _ _ _ (known_items hL hAt hd) q1).resolve_left herr
 · rw [if_neg (by omega)] at hp
   by_cases h1 : getL d.loc mine = 1
   · obtain ⟨o1, l1, q1, q2⟩ := rel_path hA.hm hp h1
     exact absurd (q2 x y rfl).1 herr
   · exact (rel_none hp h1).2.2 x y rfl
theorem bakAcq_errs {n me : Nat} {l l' : List Int} {L : List Item} {v : Int} (hk : Known L) (h : Path (bakAcq n room base loc me F) l L (.ret v) l') : v = 0 ∨ v = 11 := by
 rcases bakAcq_path h hk with ⟨_, _, _, _, _, _, _, _, _, _, _, _, h1⟩ | ⟨_, _, h1⟩
 · exact .inl (h1 v rfl).1
 · exact .inr (h1 v rfl)
theorem alone_bak (hL : Logs M progs H C) (hA : Alt M progs mine (fun t => bakAcq progs.length room base loc t F) (fun t => bakRel progs.length base loc t)) (hC : BakCells M progs.length room base) : AloneL H.length progs.length (altG mine C) := by
 have hG : Segs progs C (bakT progs.length room base loc F) (bakCells progs.length base) H.length (altG mine C) := by rw [bakT_alt]; exact alt_segs hL hA _
 intro t t' k k' s s' ht ht' hne hs hs' h0 h0' hr hr' h1 h2
 exact bak_alone hL hG hC ht ht' hne hs hs' h0 h0' hr hr' h1 h2
end
end Go.Proofs.YtpodgcpkccpnfaaGreat

namespace Go.Proofs.YtpodgcpkccpnfaaGreat
open Go.RowKit
theorem has_up {read : Bool} {k : Int} {a : ActD} (h1 : moreOp read a.2.1 = true) (h2 : a.1.kind = 2) (h3 : a.1.err = 0) : hasDn read (hasUp read k a) a = k + 1 := by
 have e1 : hasUp read k a = k + 1 := if_pos ⟨h1, h2, h3⟩
 rw [e1]
 exact if_neg (by rw [h2]; rintro ⟨_, h, _⟩; exact absurd h (by decide))
theorem has_same {read : Bool} {k : Int} {a : ActD} (h1 : ¬ (moreOp read a.2.1 = true ∧ a.1.kind = 2 ∧ a.1.err = 0)) (h2 : ¬ (lessOp read a.2.1 = true ∧ a.1.kind = 1 ∧ 0 < k)) : hasDn read (hasUp read k a) a = k := by
 have e1 : hasUp read k a = k := if_neg h1
 rw [e1]
 exact if_neg h2
theorem has_down {read : Bool} {k : Int} {a : ActD} (h1 : ¬ (moreOp read a.2.1 = true ∧ a.1.kind = 2 ∧ a.1.err = 0)) (h2 : lessOp read a.2.1 = true) (h3 : a.1.kind = 1) (h4 : 0 < k) : hasDn read (hasUp read k a) a = k - 1 := by
 have e1 : hasUp read k a = k := if_neg h1
 rw [e1]
 exact if_pos ⟨h2, h3, h4⟩
theorem has_any (l : List ActD) (A : Option Addr) (c n : Nat) (t : Int) (read : Bool) (w : World) (hn : n ≤ l.length) (hl : l.length ≤ 100000000) (hr : ActsAt w A l) :
 Calls Tryz.prog 43 #[.slice A l.length c, .int .i64 n, .int .i64 t, .bool read] w fun e w' => e = .returned (.int .i64 (hasP (l.take n) t read)) ∧ Up w w' := by
 have HR := hQ' hr
 have HH := hQ' (show hasP (l.take 0) t read = 0 from rfl)
 have HT := hQ' (fun i h => hasP_take l t read (i := i) h)
 have HIN := hQ' (fun i h => hasP_in l t read i h)
 have HO1 := hQ' (fun (W : World) (op : Int) => show Calls Tryz.prog 41 #[.int .i64 op, .slice (some ⟨W.heap.size, 0, none⟩) 5 5] (W.alloc (.cells #[.int .i64 1, .int .i64 3, .int .i64 4, .int .i64 6, .int .i64 11] 3)) (fun e w' => e = .returned (.bool (moreOp false op)) ∧ w' = W.alloc (.cells #[.int .i64 1, .int .i64 3, .int .i64 4, .int .i64 6, .int .i64 11] 3)) from by rw [← more_one]; exact one_any op [1, 3, 4, 6, 11] (some ⟨W.heap.size, 0, none⟩) 5 (W.alloc (.cells #[.int .i64 1, .int .i64 3, .int .i64 4, .int .i64 6, .int .i64 11] 3)) (by decide) (row_made W [1, 3, 4, 6, 11] 3))
 have HO2 := hQ' (fun (W : World) (op : Int) => show Calls Tryz.prog 41 #[.int .i64 op, .slice (some ⟨W.heap.size, 0, none⟩) 4 4] (W.alloc (.cells #[.int .i64 2, .int .i64 5, .int .i64 7, .int .i64 12] 3)) (fun e w' => e = .returned (.bool (lessOp false op)) ∧ w' = W.alloc (.cells #[.int .i64 2, .int .i64 5, .int .i64 7, .int .i64 12] 3)) from by rw [← less_one]; exact one_any op [2, 5, 7, 12] (some ⟨W.heap.size, 0, none⟩) 4 (W.alloc (.cells #[.int .i64 2, .int .i64 5, .int .i64 7, .int .i64 12] 3)) (by decide) (row_made W [2, 5, 7, 12] 3))
 have HL := hQ' (And.intro hn hl)
 have HU0 := hQ' (Up.refl w)
 clear hr
 go_enter Tryz.func43, Tryz.ntmps43
 go_wp2_with fail
 go_loopw [9, 10] (fun k x wr => ∃ i : Nat, i ≤ n ∧ x = .int .i64 i ∧ k = .int .i64 (hasP (l.take i) t read) ∧ Hid (Up w wr)) (fun _ x _ => n - (intOf x).toNat)
 case atStart => exact ⟨0, by omega, rfl, rfl, HU0⟩
 case round =>
  obtain ⟨i, hi, rfl, rfl, HV⟩ := hrel
  by_cases hlt : i < n
  · have hii : (i : Int) < n := by omega
    have hil : (i : Int) < l.length := by omega
    have hi0 : (0 : Int) ≤ i := by omega
    obtain ⟨b, off, eA, hx⟩ := (HR.out.up HV.out) i (by omega)
    have hst := HT.out i (by omega)
    have hin := HIN.out i (by omega)
    have hle : (i : Int) ≤ 100000000 := by omega
    have HLT := hQ' hlt
    rw [eA]
    generalize hasP (l.take i) t read = k at *
    generalize l.getD i act0 = a at *
    have HBX := hQ' (act_box wr a 94)
    unfold actA at HBX
    obtain ⟨⟨x0, x1, x2, x3, x4, x5, x6⟩, y0, y1, y2⟩ := a
    have HST := hQ' hst
    have HX := hQ' hx
    obtain ⟨c0, c1, c2, c3, c4, c5, c6, c7, c8, c9⟩ := hx
    dsimp only at c0 c1 c2 c3 c4 c5 c6 c7 c8 c9 HBX
    have HUA := hQ' (HV.out.trans ((Up.refl wr).alloc (.cells #[.int .i64 x0, .int .i64 x1, .int .i64 x2, .int .i64 x3, .int .i64 x4, .int .i64 x5, .int .i64 x6, .int .i64 y0, .int .i64 y1, .int .i64 y2] 94)))
    obtain ⟨d0, d1, d2, d3, d4, d5, d6, d7, d8, d9⟩ := HBX.out
    dsimp only at d0 d1 d2 d3 d4 d5 d6 d7 d8 d9
    simp only [Nat.zero_add] at d0 d1 d2 d3 d4 d5 d6 d7 d8 d9
    clear hlt hst
    by_cases ht : x2 = t
    · subst ht
      have HSE : Hid (hasP (l.take (i + 1)) x2 read = hasDn read (hasUp read k (⟨x0, x1, x2, x3, x4, x5, x6⟩, y0, y1, y2)) (⟨x0, x1, x2, x3, x4, x5, x6⟩, y0, y1, y2)) := hQ' (HST.out.trans (if_pos rfl))
      clear HST
      obtain ⟨W0, hW0⟩ : ∃ x, wr.alloc (.cells #[.int .i64 x0, .int .i64 x1, .int .i64 x2, .int .i64 x3, .int .i64 x4, .int .i64 x5, .int .i64 x6, .int .i64 y0, .int .i64 y1, .int .i64 y2] 94) = x := ⟨_, rfl⟩
      rw [hW0] at HUA HBX d0 d1 d2 d3 d4 d5 d6 d7 d8 d9
      go_wp2_with fail
      try simp only [hW0]
      refine (HO1.out W0 y0).mono ?_
      rintro e w1 ⟨rfl, rfl⟩
      have HU1 := hQ' ((Up.refl W0).alloc (.cells #[.int .i64 1, .int .i64 3, .int .i64 4, .int .i64 6, .int .i64 11] 3))
      have HB1 := hQ' (HBX.out.up HU1.out)
      generalize W0.alloc (.cells #[.int .i64 1, .int .i64 3, .int .i64 4, .int .i64 6, .int .i64 11] 3) = W1 at *
      clear d0 d1 d2 d3 d4 d5 d6 d7 d8 d9
      obtain ⟨d0, d1, d2, d3, d4, d5, d6, d7, d8, d9⟩ := HB1.out
      dsimp only at d0 d1 d2 d3 d4 d5 d6 d7 d8 d9
      simp only [Nat.zero_add] at d0 d1 d2 d3 d4 d5 d6 d7 d8 d9
      go_wp2_with fail
      refine (HO2.out W1 y0).mono ?_
      rintro e w2 ⟨rfl, rfl⟩
      have HU2 := hQ' (HUA.out.trans (HU1.out.trans ((Up.refl W1).alloc (.cells #[.int .i64 2, .int .i64 5, .int .i64 7, .int .i64 12] 3))))
      have HB2 := hQ' (HB1.out.up ((Up.refl W1).alloc (.cells #[.int .i64 2, .int .i64 5, .int .i64 7, .int .i64 12] 3)))
      generalize W1.alloc (.cells #[.int .i64 2, .int .i64 5, .int .i64 7, .int .i64 12] 3) = W2 at *
      clear d0 d1 d2 d3 d4 d5 d6 d7 d8 d9
      obtain ⟨d0, d1, d2, d3, d4, d5, d6, d7, d8, d9⟩ := HB2.out
      dsimp only at d0 d1 d2 d3 d4 d5 d6 d7 d8 d9
      simp only [Nat.zero_add] at d0 d1 d2 d3 d4 d5 d6 d7 d8 d9
      clear HB1 HB2 HBX HU1 c0 c1 c2 c3 c4 c5 c6 c7 c8 c9 HX HO1 HO2 hW0 HUA
      cases read
      · obtain ⟨mo, hmo⟩ : ∃ m, moreOp false y0 = m := ⟨_, rfl⟩
        obtain ⟨lo, hlo⟩ : ∃ m, lessOp false y0 = m := ⟨_, rfl⟩
        simp only [hmo, hlo]
        rcases three_cases mo x1 2 x5 0 with ⟨rfl, rfl, rfl⟩ | hmf
        · have HVAL : Hid (hasP (l.take (i + 1)) x2 false = k + 1) := hQ' (HSE.out.trans (has_up hmo rfl rfl))
          have hd21 : ¬ ((2 : Int) = 1) := by decide
          cases lo
          all_goals
           go_wp2_with fail
           go_roundw
           case rel => exact ⟨i + 1, HLT.out, by first | rfl | go_num, by rw [HVAL.out], HU2⟩
           case measure => have := HLT.out; simp [intOf]; omega
        · have hno : ¬ (moreOp false y0 = true ∧ x1 = 2 ∧ x5 = 0) := by
           rintro ⟨h1, h2, h3⟩
           rw [hmo] at h1
           rcases hmf with h | ⟨h, h'⟩ | ⟨h, h', h''⟩
           · rw [h] at h1; cases h1
           · exact h' h2
           · exact h'' h3
          rcases dn_cases lo x1 1 k with ⟨rfl, rfl, hk⟩ | hlf
          · have HVAL : Hid (hasP (l.take (i + 1)) x2 false = k - 1) := hQ' (HSE.out.trans (has_down hno hlo rfl hk))
            have hd12 : ¬ ((1 : Int) = 2) := by decide
            clear hmf hno
            cases mo
            all_goals
             go_wp2_with fail
             go_roundw
             case rel => exact ⟨i + 1, HLT.out, by first | rfl | go_num, by rw [HVAL.out], HU2⟩
             case measure => have := HLT.out; simp [intOf]; omega
          · have HVAL : Hid (hasP (l.take (i + 1)) x2 false = k) := hQ' (HSE.out.trans (has_same hno (by
             rintro ⟨h1, h2, h3⟩
             rw [hlo] at h1
             rcases hlf with h | ⟨h, h'⟩ | ⟨h, h', h''⟩
             · rw [h] at h1; cases h1
             · exact h' h2
             · exact h'' h3)))
            clear hno
            rcases hmf with rfl | ⟨rfl, hm1⟩ | ⟨rfl, hm1, hm2⟩ <;> rcases hlf with rfl | ⟨rfl, hl1⟩ | ⟨rfl, hl1, hl2⟩
            all_goals
             try (exfalso; omega)
            all_goals
             go_wp2_with fail
             go_roundw
             case rel => exact ⟨i + 1, HLT.out, by first | rfl | go_num, by rw [HVAL.out], HU2⟩
             case measure => have := HLT.out; simp [intOf]; omega
      · by_cases h9 : y0 = 9
        · subst h9
          rcases three_cases true x1 2 x5 0 with ⟨-, rfl, rfl⟩ | h | ⟨-, hm1⟩ | ⟨-, rfl, hm2⟩
          · have HVAL : Hid (hasP (l.take (i + 1)) x2 true = k + 1) := hQ' (HSE.out.trans (has_up rfl rfl rfl))
            go_wp2_with fail
            go_roundw
            case rel => exact ⟨i + 1, HLT.out, by first | rfl | go_num, by rw [HVAL.out], HU2⟩
            case measure => have := HLT.out; simp [intOf]; omega
          · cases h
          · have HVAL : Hid (hasP (l.take (i + 1)) x2 true = k) := hQ' (HSE.out.trans (has_same (fun h => hm1 h.2.1) (fun h => absurd (show lessOp true 9 = true from h.1) (by decide))))
            go_wp2_with fail
            go_roundw
            case rel => exact ⟨i + 1, HLT.out, by first | rfl | go_num, by rw [HVAL.out], HU2⟩
            case measure => have := HLT.out; simp [intOf]; omega
          · have HVAL : Hid (hasP (l.take (i + 1)) x2 true = k) := hQ' (HSE.out.trans (has_same (fun h => hm2 h.2.2) (fun h => absurd (show lessOp true 9 = true from h.1) (by decide))))
            go_wp2_with fail
            go_roundw
            case rel => exact ⟨i + 1, HLT.out, by first | rfl | go_num, by rw [HVAL.out], HU2⟩
            case measure => have := HLT.out; simp [intOf]; omega
        · by_cases h10 : y0 = 10
          · subst h10
            rcases dn_cases true x1 1 k with ⟨-, rfl, hk⟩ | h | ⟨-, hm1⟩ | ⟨-, rfl, hk⟩
            · have HVAL : Hid (hasP (l.take (i + 1)) x2 true = k - 1) := hQ' (HSE.out.trans (has_down (fun h => absurd (show moreOp true 10 = true from h.1) (by decide)) rfl rfl hk))
              go_wp2_with fail
              go_roundw
              case rel => exact ⟨i + 1, HLT.out, by first | rfl | go_num, by rw [HVAL.out], HU2⟩
              case measure => have := HLT.out; simp [intOf]; omega
            · cases h
            · have HVAL : Hid (hasP (l.take (i + 1)) x2 true = k) := hQ' (HSE.out.trans (has_same (fun h => absurd (show moreOp true 10 = true from h.1) (by decide)) (fun h => hm1 h.2.1)))
              go_wp2_with fail
              go_roundw
              case rel => exact ⟨i + 1, HLT.out, by first | rfl | go_num, by rw [HVAL.out], HU2⟩
              case measure => have := HLT.out; simp [intOf]; omega
            · have HVAL : Hid (hasP (l.take (i + 1)) x2 true = k) := hQ' (HSE.out.trans (has_same (fun h => absurd (show moreOp true 10 = true from h.1) (by decide)) (fun h => hk h.2.2)))
              go_wp2_with fail
              go_roundw
              case rel => exact ⟨i + 1, HLT.out, by first | rfl | go_num, by rw [HVAL.out], HU2⟩
              case measure => have := HLT.out; simp [intOf]; omega
          · have HVAL : Hid (hasP (l.take (i + 1)) x2 true = k) := hQ' (HSE.out.trans (has_same (fun h => h9 (of_decide_eq_true h.1)) (fun h => h10 (of_decide_eq_true h.1))))
            go_wp2_with fail
            go_roundw
            case rel => exact ⟨i + 1, HLT.out, by first | rfl | go_num, by rw [HVAL.out], HU2⟩
            case measure => have := HLT.out; simp [intOf]; omega
    · have HSE : Hid (hasP (l.take (i + 1)) t read = k) := hQ' (HST.out.trans (if_neg ht))
      clear HST
      go_wp2_with fail
      go_roundw
      case rel => exact ⟨i + 1, HLT.out, by first | rfl | go_num, by rw [HSE.out], HUA⟩
      case measure => have := HLT.out; simp [intOf]; omega
  · have hie : i = n := by omega
    subst hie
    have hnl : ¬ ((i : Int) < i) := by omega
    have HVE := hQ' HV.out
    clear HV
    go_wp2_with fail
    go_ret
    exact ⟨rfl, HVE.out⟩
end Go.Proofs.YtpodgcpkccpnfaaGreat

