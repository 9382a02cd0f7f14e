/-
  The walk of TapeGrows.
-/
import Derived.Test.YtpandnodeldbjaaGrow
set_option linter.unusedVariables false
set_option linter.unusedSimpArgs false
namespace Go.Proofs.Ytpandnodeldbjaa
open Go.RowKit

/-- A box of one slice, written: rows of ints stay. -/
theorem row_box {w : World} {N : Nat} {t : TypeId} {fr : Nat × Nat} {A L : Option Addr} {n c m : Nat} {l : List Int} (u : Value) (hb : w.heap[N]? = some (.cells #[.slice A n c] t fr)) (h : Row w L m (IVal l)) : Row (w.setCell ⟨N, 0, none⟩ u) L m (IVal l) := fun k hk => by
  obtain ⟨b, off, e, h1⟩ := h k hk
  have hne : b ≠ N := by
    rintro rfl
    rw [cell_of_row w b (off + k) _ _ _ hb] at h1
    match off + k, h1 with
    | 0, h1 => simp [IVal] at h1
    | j + 1, h1 => simp [IVal] at h1
  exact ⟨b, off, e, (tcell (Below.heap_setCell w ⟨N, 0, none⟩ u b hne)).trans h1⟩

/-- Two boxes of outcomes. -/
def Boxes2 (W : World) (a b : Nat) (va vb : Array Value) : Prop := W.heap[a]? = some (.cells va 29 (0, 0)) ∧ W.heap[b]? = some (.cells vb 29 (0, 0))
theorem Boxes2.up {W W' : World} {a b : Nat} {va vb : Array Value} (h : Boxes2 W a b va vb) (hU : Up W W') : Boxes2 W' a b va vb :=
  ⟨(hU.block _ (Array.getElem?_eq_some_iff.1 h.1).1).trans h.1, (hU.block _ (Array.getElem?_eq_some_iff.1 h.2).1).trans h.2⟩

set_option maxRecDepth 10000 in
set_option maxHeartbeats 4000000 in
theorem tapeGrows_any (l : List Act3) (loc ans : List Int) (A A0 A1 : Option Addr) (c c0 c1 : Nat) (n : Nat) (w : World) (hn : n ≤ 255) (hr : ActRow w A l) (hk : ∀ a ∈ l, 0 ≤ a.1 ∧ a.1 ≤ 255) (hA : l.length ≤ 9223372036854775807) (hB : loc.length ≤ 9223372036854775807) (hC : ans.length ≤ 9223372036854775807)
    (hr0 : Row w A0 loc.length (IVal loc)) (hr1 : Row w A1 ans.length (IVal ans)) :
    Calls Try.prog 4 #[.slice A l.length c, .slice A0 loc.length c0, .slice A1 ans.length c1, .int .u8 n] w fun e w' => e = .returned (.bool true) ∧ Up w w' := by
  have HAL := Lib.hid (fun W : World => alive10_any W)
  have hU0 : Up w (w.alloc (.cells #[.slice A l.length c] 22)) := (Up.refl w).alloc _
  have hb0 := heap_alloc_new w (.cells #[.slice A l.length c] 22)
  have hs0 : (w.alloc (.cells #[.slice A l.length c] 22)).heap.size = w.heap.size + 1 := by simp
  by_cases hs : l.length ≤ 100 ∧ loc.length ≤ 100 ∧ ans.length ≤ 100
  · obtain ⟨hs1, hs2, hs3⟩ := hs
    have HT0 := Lib.hid (fun (W : World) (hr : Row W A0 loc.length (IVal loc)) => tame_any loc A0 c0 2199023255552 W (by omega) hr)
    have HT1 := Lib.hid (fun (W : World) (hr : Row W A1 ans.length (IVal ans)) => tame_any ans A1 c1 2199023255552 W (by omega) hr)
    have HR := Lib.hid hr
    have HR0 := Lib.hid hr0
    have HR1 := Lib.hid hr1
    have HK := Lib.hid hk
    have il : (l.length : Int) ≤ 100 := by omega
    have i0 : (loc.length : Int) ≤ 100 := by omega
    have i1 : (ans.length : Int) ≤ 100 := by omega
    have hmf : ∀ (fn : Fn) (first cap : Array Value) (w : World), (Instr.makeFunc fn first cap).run Try.prog w = .ok (.func fn first cap) w := fun _ _ _ _ => rfl
    clear hr hr0 hr1 hk
    go_enter Try.func4, Try.ntmps4
    obtain ⟨W0, hW0⟩ : ∃ x, w.alloc (.cells #[.slice A l.length c] 22) = x := ⟨_, rfl⟩
    have hb1 := heap_alloc_new W0 (.cells #[.slice A0 loc.length c0] 23)
    have hU1 : Up W0 (W0.alloc (.cells #[.slice A0 loc.length c0] 23)) := (Up.refl W0).alloc _
    rw [hW0] at hb0 hU0 hs0
    have hb0' := (hU1.block _ (Array.getElem?_eq_some_iff.1 hb0).1).trans hb0
    subst hW0
    have hq0 := cell_of_row _ _ 0 _ _ _ hb0'
    have hq1 := cell_of_row _ _ 0 _ _ _ hb1
    simp only [List.getElem?_toArray, List.getElem?_cons_zero] at hq0 hq1
    rw [hs0] at hq1 hb1
    have HB0 := Lib.hid hb0'
    have HB1 := Lib.hid hb1
    have HU1 := Lib.hid (hU0.trans hU1)
    clear hb0 hb1 hb0' hU0 hU1 hs0
    go_wp2_with fail
    generalize (w.alloc (.cells #[.slice A l.length c] 22)).alloc (.cells #[.slice A0 loc.length c0] 23) = W1 at *
    refine (HT0.out _ (HR0.out.up HU1.out)).mono ?_
    rintro e w1 ⟨B0, d0, rfl, r0, hd0, hn0, hU1⟩
    have hb1 := (hU1.block _ (Array.getElem?_eq_some_iff.1 HB1.out).1).trans HB1.out
    have hb0 := (hU1.block _ (Array.getElem?_eq_some_iff.1 HB0.out).1).trans HB0.out
    have q1 := cell_of_row w1 _ 0 _ _ _ hb1
    have f1 := frozen_of_row w1 _ 0 _ _ hb1
    simp only [List.getElem?_toArray, List.getElem?_cons_zero] at q1
    obtain ⟨loc', hloc⟩ : ∃ x, tameL loc 2199023255552 = x := ⟨_, rfl⟩
    have hll : loc'.length = loc.length := by rw [← hloc, tameL_len]
    rw [hloc] at r0
    have HST := Lib.hid (show Up w (w1.setCell ⟨w.heap.size + 1, 0, none⟩ (.slice B0 loc.length d0)) ∧ (w1.setCell ⟨w.heap.size + 1, 0, none⟩ (.slice B0 loc.length d0)).heap[w.heap.size]? = some (.cells #[.slice A l.length c] 22 (0, 0)) ∧
        (w1.setCell ⟨w.heap.size + 1, 0, none⟩ (.slice B0 loc.length d0)).heap[w.heap.size + 1]? = some (.cells #[.slice B0 loc.length d0] 23 (0, 0)) ∧ Row (w1.setCell ⟨w.heap.size + 1, 0, none⟩ (.slice B0 loc.length d0)) B0 loc'.length (IVal loc') from
      ⟨(HU1.out.trans hU1).trans' ((Below.refl w.heap.size w1).setCell (p := ⟨w.heap.size + 1, 0, none⟩) (by simp) _), (Below.heap_setCell w1 ⟨w.heap.size + 1, 0, none⟩ _ _ (by simp)).trans hb0, heap_setCell_same _ _ _ _ _ _ hb1, by rw [hll]; exact row_box _ hb1 r0⟩)
    have HD0 := Lib.hid (show loc.length ≤ d0 ∧ (B0 = none → d0 = 0) from ⟨hd0, hn0⟩)
    clear hq0 hq1 hb0 hb1 hU1 r0 hd0 hn0 HT0 hloc HB0 HB1 HU1 HR0
    go_wp2_with fail
    generalize w1.setCell ⟨w.heap.size + 1, 0, none⟩ (.slice B0 loc.length d0) = W2 at *
    refine (HT1.out _ (HR1.out.up HST.out.1)).mono ?_
    rintro e w2 ⟨B1, d1, rfl, r1, hd1, hn1, hU2⟩
    have hb1 := (hU2.block _ (Array.getElem?_eq_some_iff.1 HST.out.2.2.1).1).trans HST.out.2.2.1
    have hb0 := (hU2.block _ (Array.getElem?_eq_some_iff.1 HST.out.2.1).1).trans HST.out.2.1
    obtain ⟨ans', hans⟩ : ∃ x, tameL ans 2199023255552 = x := ⟨_, rfl⟩
    have hla : ans'.length = ans.length := by rw [← hans, tameL_len]
    rw [hans] at r1
    have HB0 := Lib.hid hb0
    have HB1 := Lib.hid hb1
    have HU2 := Lib.hid (HST.out.1.trans hU2)
    have HD1 := Lib.hid (show Row w2 B0 loc'.length (IVal loc') ∧ Row w2 B1 ans'.length (IVal ans') from ⟨HST.out.2.2.2.up hU2, hla ▸ r1⟩)
    obtain ⟨k, hk⟩ : ∃ k, min n ans.length = k := ⟨_, rfl⟩
    have hkm : k ≤ ans'.length := by rw [hla]; omega
    have HPA := Lib.hid (fun (W : World) (hU : Up w2 W) => growPlay_any l loc' (ans'.take k) A B0 B1 c d0 d1 w.heap.size (w.heap.size + 1) W ((hU.block _ (Array.getElem?_eq_some_iff.1 hb0).1).trans hb0) ((hU.block _ (Array.getElem?_eq_some_iff.1 hb1).1).trans (by rw [hll]; exact hb1)) hs1 (HR.out.up (HU2.out.trans hU)) HK.out HD0.out.2 (by omega)
      (by rw [List.length_take]; omega) (HD1.out.1.up hU) (by rw [List.length_take, Nat.min_eq_left hkm]; exact row_takeI (HD1.out.2.up hU) hkm) (by rw [hll]; exact HD0.out.1))
    have HPB := Lib.hid (fun (W : World) (hU : Up w2 W) => growPlay_any l loc' ans' A B0 B1 c d0 d1 w.heap.size (w.heap.size + 1) W ((hU.block _ (Array.getElem?_eq_some_iff.1 hb0).1).trans hb0) ((hU.block _ (Array.getElem?_eq_some_iff.1 hb1).1).trans (by rw [hll]; exact hb1)) hs1 (HR.out.up (HU2.out.trans hU)) HK.out HD0.out.2 (by omega)
      (by omega) (HD1.out.1.up hU) (HD1.out.2.up hU) (by rw [hll]; exact HD0.out.1))
    rw [List.length_take, Nat.min_eq_left hkm] at HPA
    rw [hla] at HPB
    obtain ⟨da, P, Q, hP, hQ, hda, hpa, hpn, hcase⟩ := grow_law l loc' ans' k hkm
    have HLA := Lib.hid (acts_len l loc' (ans'.take k) hs1 (by omega))
    have HLB := Lib.hid (acts_len l loc' ans' hs1 (by omega))
    rw [hP] at HPA HLA
    rw [hQ] at HPB HLB
    rw [hda] at HPA
    have HCA := Lib.hid hcase
    have HPR := Lib.hid (show P.2.acc <+: Q.2.acc ∧ P.2.nts <+: Q.2.nts from ⟨hpa, hpn⟩)
    have hk0 : (0 : Int) ≤ (k : Int) := by omega
    have hk1 : (k : Int) ≤ (d1 : Int) := by omega
    clear hU2 hb0 hb1 r1 hn1 HT1 hans HST HR1 HR HK HD0 HD1 q1 f1 hP hQ hda hcase hpa hpn
    go_wp2_with fail
    · obtain rfl : k = ans.length := by omega
      clear hk
      generalize ans.length = k at *
      clear hn il i0 i1
      have hk2 : (k : Int) ≤ 1000000 := by omega
      clear hs1 hs2 hs3 hA hB hC hkm hd1 hk1
      refine (HPA.out _ (Up.refl w2)).mono ?_
      rintro e w3 ⟨ov, rfl, hO, hU3⟩
      obtain ⟨X, cX, N, cN, L, cL, rfl, hx⟩ := hO
      have hbo := heap_alloc_new w3 (.cells #[.bool da, .slice X P.2.acc.length cX, .slice N P.2.nts.length cN, .slice L (shortL P.2.loc).length cL] 29)
      have hUo : Up w3 (w3.alloc (.cells #[.bool da, .slice X P.2.acc.length cX, .slice N P.2.nts.length cN, .slice L (shortL P.2.loc).length cL] 29)) := (Up.refl w3).alloc _
      have HX := Lib.hid (show OutR w3 (.agg #[.bool da, .slice X P.2.acc.length cX, .slice N P.2.nts.length cN, .slice L (shortL P.2.loc).length cL]) da P.2 from ⟨X, cX, N, cN, L, cL, rfl, hx.1, hx.2.1, hx.2.2.1⟩)
      have HXR := Lib.hid (show AccRow w3 X P.2.acc ∧ NoteRow w3 N P.2.nts from ⟨hx.1, hx.2.1⟩)
      have HU3 := Lib.hid hU3
      obtain ⟨qa, hqa⟩ : ∃ q, w3.heap.size = q := ⟨_, rfl⟩
      clear hU3 hx HPA
      obtain ⟨v, hv⟩ : ∃ x, P.1.getD 0 = x := ⟨_, rfl⟩
      rw [hv] at HCA ⊢
      obtain ⟨pa, hpa⟩ : ∃ x, P.2.acc.length = x := ⟨_, rfl⟩
      obtain ⟨pn, hpn⟩ : ∃ x, P.2.nts.length = x := ⟨_, rfl⟩
      obtain ⟨pl, hpl⟩ : ∃ x, (shortL P.2.loc).length = x := ⟨_, rfl⟩
      rw [hpa, hpn, hpl] at hbo hUo HX ⊢
      go_wp2_with fail
      rw [hqa] at hbo
      generalize w3.alloc (.cells #[.bool da, .slice X pa cX, .slice N pn cN, .slice L pl cL] 29) = w4 at *
      have HB4 := Lib.hid hbo
      have HU4 := Lib.hid (HU3.out.trans hUo)
      have HX4 := Lib.hid (HX.out.up hUo)
      have HR4 := Lib.hid (show AccRow w4 X P.2.acc ∧ NoteRow w4 N P.2.nts from ⟨HXR.out.1.up hUo, HXR.out.2.up hUo⟩)
      clear hbo hUo HX HXR HU3 hqa
      refine (HPB.out _ HU4.out).mono ?_
      rintro e w5 ⟨ov, rfl, hO, hU5⟩
      obtain ⟨Y, cY, M, cM, L2, cL2, rfl, hx⟩ := hO
      obtain ⟨db, hdb⟩ : ∃ x, Q.1.isSome = x := ⟨_, rfl⟩
      obtain ⟨u, hu⟩ : ∃ x, Q.1.getD 0 = x := ⟨_, rfl⟩
      obtain ⟨qc, hqc⟩ : ∃ x, Q.2.acc.length = x := ⟨_, rfl⟩
      obtain ⟨qn, hqn⟩ : ∃ x, Q.2.nts.length = x := ⟨_, rfl⟩
      obtain ⟨ql, hql⟩ : ∃ x, (shortL Q.2.loc).length = x := ⟨_, rfl⟩
      rw [hdb, hu] at HCA
      rw [hdb, hu, hqc, hqn, hql]
      have hbo := heap_alloc_new w5 (.cells #[.bool db, .slice Y qc cY, .slice M qn cM, .slice L2 ql cL2] 29)
      have hUo : Up w5 (w5.alloc (.cells #[.bool db, .slice Y qc cY, .slice M qn cM, .slice L2 ql cL2] 29)) := (Up.refl w5).alloc _
      have HY := Lib.hid (show OutR w5 (.agg #[.bool db, .slice Y qc cY, .slice M qn cM, .slice L2 ql cL2]) db Q.2 from ⟨Y, cY, M, cM, L2, cL2, by rw [hqc, hqn, hql], hx.1, hx.2.1, hx.2.2.1⟩)
      have HYR := Lib.hid (show AccRow w5 Y Q.2.acc ∧ NoteRow w5 M Q.2.nts from ⟨hx.1, hx.2.1⟩)
      have HU5 := Lib.hid hU5
      have hb4 := (hU5.block _ (Array.getElem?_eq_some_iff.1 HB4.out).1).trans HB4.out
      obtain ⟨qb, hqb⟩ : ∃ q, w5.heap.size = q := ⟨_, rfl⟩
      clear hU5 hx HPB
      rw [hqb] at hbo
      obtain ⟨w6, hw6⟩ : ∃ x, w5.alloc (.cells #[.bool db, .slice Y qc cY, .slice M qn cM, .slice L2 ql cL2] 29) = x := ⟨_, rfl⟩
      rw [hw6] at hbo hUo
      have HB6 := Lib.hid (show Boxes2 w6 qa qb #[.bool da, .slice X pa cX, .slice N pn cN, .slice L pl cL] #[.bool db, .slice Y qc cY, .slice M qn cM, .slice L2 ql cL2] from ⟨(hUo.block _ (Array.getElem?_eq_some_iff.1 hb4).1).trans hb4, hbo⟩)
      have HU6 := Lib.hid (show Up w w6 from ((HU2.out.trans HU4.out).trans HU5.out).trans hUo)
      have HS6 := Lib.hid (show OutR w6 (.agg #[.bool da, .slice X pa cX, .slice N pn cN, .slice L pl cL]) da P.2 ∧ OutR w6 (.agg #[.bool db, .slice Y qc cY, .slice M qn cM, .slice L2 ql cL2]) db Q.2 from ⟨(HX4.out.up HU5.out).up hUo, HY.out.up hUo⟩)
      have HR6 := Lib.hid (show (AccRow w6 X P.2.acc ∧ NoteRow w6 N P.2.nts) ∧ AccRow w6 Y Q.2.acc ∧ NoteRow w6 M Q.2.nts from ⟨⟨(HR4.out.1.up HU5.out).up hUo, (HR4.out.2.up HU5.out).up hUo⟩, HYR.out.1.up hUo, HYR.out.2.up hUo⟩)
      clear hbo hUo hb4 HX4 HY HR4 HYR HU5 HU4 HB4 HB0 HB1 HU2
      obtain ⟨ca, cb⟩ := HB6.out
      have ca0 := cell_of_row w6 _ 0 _ _ _ ca
      have ca1 := cell_of_row w6 _ 1 _ _ _ ca
      have ca2 := cell_of_row w6 _ 2 _ _ _ ca
      have ca3 := cell_of_row w6 _ 3 _ _ _ ca
      have cb0 := cell_of_row w6 _ 0 _ _ _ cb
      have cb1 := cell_of_row w6 _ 1 _ _ _ cb
      have cb2 := cell_of_row w6 _ 2 _ _ _ cb
      have cb3 := cell_of_row w6 _ 3 _ _ _ cb
      simp only [List.getElem?_toArray, List.getElem?_cons_zero, List.getElem?_cons_succ] at ca0 ca1 ca2 ca3 cb0 cb1 cb2 cb3
      have ha1 : (pa : Int) ≤ qc := by have := HPR.out.1.length_le; omega
      have ha2 : (pn : Int) ≤ qn := by have := HPR.out.2.length_le; omega
      have HPA := Lib.hid hpa
      have HPN := Lib.hid hpn
      have hba : (pa : Int) ≤ 1000000000 := by have := HLA.out.1; omega
      have hbn : (pn : Int) ≤ 1000000000 := by have := HLA.out.2.1; omega
      have hbc : (qc : Int) ≤ 1000000000 := by have := HLB.out.1; omega
      have hbm : (qn : Int) ≤ 1000000000 := by have := HLB.out.2.1; omega
      have HE := Lib.hid (show ∀ j, j < pa → P.2.acc.getD j (0, 0, 0) = Q.2.acc.getD j (0, 0, 0) ∧ j < Q.2.acc.length from fun j hj => by
        have hle := HPR.out.1.length_le
        have h1 : j < P.2.acc.length := by omega
        refine ⟨?_, by omega⟩
        rw [List.getD_eq_getElem?_getD, List.getD_eq_getElem?_getD, List.getElem?_eq_getElem h1, List.getElem?_eq_getElem (by omega), HPR.out.1.getElem h1])
      have HF := Lib.hid (show ∀ j, j < pn → P.2.nts.getD j (0, 0) = Q.2.nts.getD j (0, 0) ∧ j < Q.2.nts.length from fun j hj => by
        have hle := HPR.out.2.length_le
        have h1 : j < P.2.nts.length := by omega
        refine ⟨?_, by omega⟩
        rw [List.getD_eq_getElem?_getD, List.getD_eq_getElem?_getD, List.getElem?_eq_getElem h1, List.getElem?_eq_getElem (by omega), HPR.out.2.getElem h1])
      have HSM := Lib.hid (fun (h1 : da = true) (h2 : db = true) (h3 : sameB true true P.2.acc Q.2.acc P.2.nts Q.2.nts (shortL P.2.loc) (shortL Q.2.loc) = true) => same_out HS6.out.1 HS6.out.2 (by rw [h1, h2]; exact h3) HLA.out.1 HLA.out.2.1 HLA.out.2.2)
      have hcs := HCA.out
      rw [hpa] at hcs
      clear ca cb hv hpa hpn hpl hdb hu hqc hqn hql HCA HLA HLB HPR HS6 hll hla h
      rcases hcs with ⟨rfl, rfl, rfl, hsm, hle⟩ | ⟨rfl, rfl, hle⟩
      · have HSM2 := Lib.hid (HSM.out rfl rfl hsm)
        have hz1 : ((k : Int) + 1 < (pa : Int)) = False := by simp; omega
        have hz2 : (qc < pa) = False := by simp; omega
        have hz3 : (qn < pn) = False := by simp; omega
        have HA1 := Lib.hid ha1
        have HA2 := Lib.hid ha2
        clear ha1 ha2 hle
        clear hsm HSM
        subst hw6
        go_wp2_with fail
        generalize w5.alloc (.cells #[.bool true, .slice Y qc cY, .slice M qn cM, .slice L2 ql cL2] 29) = w6 at *
        refine HSM2.out.mono ?_
        rintro e w7 ⟨rfl, hU7⟩
        have HB7 := Lib.hid (HB6.out.up hU7)
        have HU7 := Lib.hid (HU6.out.trans hU7)
        have HR7 := Lib.hid (show (AccRow w7 X P.2.acc ∧ NoteRow w7 N P.2.nts) ∧ AccRow w7 Y Q.2.acc ∧ NoteRow w7 M Q.2.nts from ⟨⟨HR6.out.1.1.up hU7, HR6.out.1.2.up hU7⟩, HR6.out.2.1.up hU7, HR6.out.2.2.up hU7⟩)
        obtain ⟨ca, cb⟩ := HB7.out
        clear ca0 ca1 ca2 ca3 cb0 cb1 cb2 cb3
        have ca1 := cell_of_row w7 _ 1 _ _ _ ca
        have ca2 := cell_of_row w7 _ 2 _ _ _ ca
        have cb1 := cell_of_row w7 _ 1 _ _ _ cb
        have cb2 := cell_of_row w7 _ 2 _ _ _ cb
        simp only [List.getElem?_toArray, List.getElem?_cons_zero, List.getElem?_cons_succ] at ca1 ca2 cb1 cb2
        clear ca cb hU7 HU6 HR6 HB6 HSM2 hqb
        go_wp2_with fail
        clear ca1 ca2 cb1 cb2 hz1 hz2 hz3
        go_loopw [15] (fun t wr => ∃ j : Nat, j ≤ pa ∧ t = .int .i64 j ∧ Hid (Boxes2 wr qa qb #[.bool true, .slice X pa cX, .slice N pn cN, .slice L pl cL] #[.bool true, .slice Y qc cY, .slice M qn cM, .slice L2 ql cL2]) ∧ Hid (Up w7 wr)) (fun t _ => pa - (intOf t).toNat)
        case atStart => exact ⟨0, by omega, rfl, HB7, Lib.hid (Up.refl _)⟩
        case round =>
          obtain ⟨j, hj, rfl, HBr, HUr⟩ := hrel
          have q1 := cell_of_row wr _ 1 _ _ _ HBr.out.1
          have q2 := cell_of_row wr _ 1 _ _ _ HBr.out.2
          simp only [List.getElem?_toArray, List.getElem?_cons_zero, List.getElem?_cons_succ] at q1 q2
          by_cases hlt : j < pa
          · obtain ⟨ba, offa, rfl, e1, e2, e3⟩ := HR7.out.1.1 j (by rw [HPA.out]; exact hlt)
            obtain ⟨heq, hjq⟩ := HE.out j hlt
            obtain ⟨bb, offb, rfl, f1, f2, f3⟩ := HR7.out.2.1 j hjq
            have e1 := (HUr.out.cell (p := ⟨ba, offa + j * 3, none⟩) (cell_lt e1)).trans e1
            have e2 := (HUr.out.cell (p := ⟨ba, offa + j * 3 + 1, none⟩) (cell_lt e2)).trans e2
            have e3 := (HUr.out.cell (p := ⟨ba, offa + j * 3 + 2, none⟩) (cell_lt e3)).trans e3
            have f1 := (HUr.out.cell (p := ⟨bb, offb + j * 3, none⟩) (cell_lt f1)).trans f1
            have f2 := (HUr.out.cell (p := ⟨bb, offb + j * 3 + 1, none⟩) (cell_lt f2)).trans f2
            have f3 := (HUr.out.cell (p := ⟨bb, offb + j * 3 + 2, none⟩) (cell_lt f3)).trans f3
            rw [heq] at e1 e2 e3
            clear heq hjq
            generalize Q.2.acc.getD j (0, 0, 0) = x at *
            obtain ⟨x0, x1, x2⟩ := x
            simp only at e1 e2 e3 f1 f2 f3
            have hne := neqAcc_same x0 x1 x2
            have hjc : (j : Int) < qc := by have := HA1.out; omega
            have hji : j < qc := by omega
            go_wp2_with fail
            go_quiet (fail)
            go_wp2_with fail
            go_roundw
            case rel => exact ⟨j + 1, by omega, by go_num, Lib.hid (HBr.out.up ((Up.refl _).drewN _)), Lib.hid (HUr.out.drewN _)⟩
            case measure => simp [intOf]; omega
          · obtain rfl : j = pa := by omega
            clear hlt HE
            go_wp2_with fail
            go_loopw [16] (fun t wr => ∃ i : Nat, i ≤ pn ∧ t = .int .i64 i ∧ Hid (Boxes2 wr qa qb #[.bool true, .slice X j cX, .slice N pn cN, .slice L pl cL] #[.bool true, .slice Y qc cY, .slice M qn cM, .slice L2 ql cL2]) ∧ Hid (Up w7 wr)) (fun t _ => pn - (intOf t).toNat)
            case atStart => exact ⟨0, by omega, rfl, HBr, HUr⟩
            case round =>
              clear HBr HUr q1 q2
              obtain ⟨i, hi, rfl, HBs, HUs⟩ := hrel
              have q1 := cell_of_row wr _ 2 _ _ _ HBs.out.1
              have q2 := cell_of_row wr _ 2 _ _ _ HBs.out.2
              simp only [List.getElem?_toArray, List.getElem?_cons_zero, List.getElem?_cons_succ] at q1 q2
              by_cases hlt : i < pn
              · obtain ⟨ba, offa, rfl, e1, e2⟩ := HR7.out.1.2 i (by rw [HPN.out]; exact hlt)
                obtain ⟨heq, hjq⟩ := HF.out i hlt
                obtain ⟨bb, offb, rfl, f1, f2⟩ := HR7.out.2.2 i hjq
                have e1 := (HUs.out.cell (p := ⟨ba, offa + i * 2, none⟩) (cell_lt e1)).trans e1
                have e2 := (HUs.out.cell (p := ⟨ba, offa + i * 2 + 1, none⟩) (cell_lt e2)).trans e2
                have f1 := (HUs.out.cell (p := ⟨bb, offb + i * 2, none⟩) (cell_lt f1)).trans f1
                have f2 := (HUs.out.cell (p := ⟨bb, offb + i * 2 + 1, none⟩) (cell_lt f2)).trans f2
                rw [heq] at e1 e2
                clear heq hjq
                generalize Q.2.nts.getD i (0, 0) = x at *
                obtain ⟨x0, x1⟩ := x
                simp only at e1 e2 f1 f2
                have hne := neqNote_same x0 x1
                have hjc : (i : Int) < qn := by have := HA2.out; omega
                have hji : i < qn := by omega
                go_wp2_with fail
                go_quiet (fail)
                go_wp2_with fail
                go_roundw
                case rel => exact ⟨i + 1, by omega, by go_num, Lib.hid (HBs.out.up ((Up.refl _).drewN _)), Lib.hid (HUs.out.drewN _)⟩
                case measure => simp [intOf]; omega
              · have p0 := cell_of_row wr _ 0 _ _ _ HBs.out.1
                have p1 := cell_of_row wr _ 1 _ _ _ HBs.out.1
                simp only [List.getElem?_toArray, List.getElem?_cons_zero, List.getElem?_cons_succ] at p0 p1
                obtain rfl : i = pn := by omega
                clear hlt HF HR7
                have HUW := Lib.hid (HU7.out.trans HUs.out)
                clear HUs HBs
                go_wp2_with fail
                refine (HAL.out _).mono ?_
                rintro e w9 ⟨rfl, hU9⟩
                have HU9 := Lib.hid (HUW.out.trans hU9)
                clear hU9 HUW HAL
                go_wp2_with fail
                go_ret
                exact ⟨rfl, HU9.out⟩
      · have hz1 : ((k : Int) + 1 < (pa : Int)) = False := by simp; omega
        have hz2 : (qc < pa) = False := by simp; omega
        have hz3 : (qn < pn) = False := by simp; omega
        have HA1 := Lib.hid ha1
        have HA2 := Lib.hid ha2
        have hpe : ((pa : Int) == (k : Int) + 1) = true := by rw [beq_iff_eq]; omega
        have HB7 := HB6
        have HU7 := HU6
        have HR7 := HR6
        clear ha1 ha2 hle HSM HB6 HU6 HR6
        subst hw6
        go_wp2_with fail
        generalize w5.alloc (.cells #[.bool db, .slice Y qc cY, .slice M qn cM, .slice L2 ql cL2] 29) = w7 at *
        clear ca0 ca1 ca2 ca3 cb0 cb1 cb2 cb3 hz1 hz2 hz3
        go_loopw [15] (fun t wr => ∃ j : Nat, j ≤ pa ∧ t = .int .i64 j ∧ Hid (Boxes2 wr qa qb #[.bool false, .slice X pa cX, .slice N pn cN, .slice L pl cL] #[.bool db, .slice Y qc cY, .slice M qn cM, .slice L2 ql cL2]) ∧ Hid (Up w7 wr)) (fun t _ => pa - (intOf t).toNat)
        case atStart => exact ⟨0, by omega, rfl, HB7, Lib.hid (Up.refl _)⟩
        case round =>
          obtain ⟨j, hj, rfl, HBr, HUr⟩ := hrel
          have q1 := cell_of_row wr _ 1 _ _ _ HBr.out.1
          have q2 := cell_of_row wr _ 1 _ _ _ HBr.out.2
          simp only [List.getElem?_toArray, List.getElem?_cons_zero, List.getElem?_cons_succ] at q1 q2
          by_cases hlt : j < pa
          · obtain ⟨ba, offa, rfl, e1, e2, e3⟩ := HR7.out.1.1 j (by rw [HPA.out]; exact hlt)
            obtain ⟨heq, hjq⟩ := HE.out j hlt
            obtain ⟨bb, offb, rfl, f1, f2, f3⟩ := HR7.out.2.1 j hjq
            have e1 := (HUr.out.cell (p := ⟨ba, offa + j * 3, none⟩) (cell_lt e1)).trans e1
            have e2 := (HUr.out.cell (p := ⟨ba, offa + j * 3 + 1, none⟩) (cell_lt e2)).trans e2
            have e3 := (HUr.out.cell (p := ⟨ba, offa + j * 3 + 2, none⟩) (cell_lt e3)).trans e3
            have f1 := (HUr.out.cell (p := ⟨bb, offb + j * 3, none⟩) (cell_lt f1)).trans f1
            have f2 := (HUr.out.cell (p := ⟨bb, offb + j * 3 + 1, none⟩) (cell_lt f2)).trans f2
            have f3 := (HUr.out.cell (p := ⟨bb, offb + j * 3 + 2, none⟩) (cell_lt f3)).trans f3
            rw [heq] at e1 e2 e3
            clear heq hjq
            generalize Q.2.acc.getD j (0, 0, 0) = x at *
            obtain ⟨x0, x1, x2⟩ := x
            simp only at e1 e2 e3 f1 f2 f3
            have hne := neqAcc_same x0 x1 x2
            have hjc : (j : Int) < qc := by have := HA1.out; omega
            have hji : j < qc := by omega
            go_wp2_with fail
            go_quiet (fail)
            go_wp2_with fail
            go_roundw
            case rel => exact ⟨j + 1, by omega, by go_num, Lib.hid (HBr.out.up ((Up.refl _).drewN _)), Lib.hid (HUr.out.drewN _)⟩
            case measure => simp [intOf]; omega
          · obtain rfl : j = pa := by omega
            clear hlt HE
            go_wp2_with fail
            go_loopw [16] (fun t wr => ∃ i : Nat, i ≤ pn ∧ t = .int .i64 i ∧ Hid (Boxes2 wr qa qb #[.bool false, .slice X j cX, .slice N pn cN, .slice L pl cL] #[.bool db, .slice Y qc cY, .slice M qn cM, .slice L2 ql cL2]) ∧ Hid (Up w7 wr)) (fun t _ => pn - (intOf t).toNat)
            case atStart => exact ⟨0, by omega, rfl, HBr, HUr⟩
            case round =>
              clear HBr HUr q1 q2
              obtain ⟨i, hi, rfl, HBs, HUs⟩ := hrel
              have q1 := cell_of_row wr _ 2 _ _ _ HBs.out.1
              have q2 := cell_of_row wr _ 2 _ _ _ HBs.out.2
              simp only [List.getElem?_toArray, List.getElem?_cons_zero, List.getElem?_cons_succ] at q1 q2
              by_cases hlt : i < pn
              · obtain ⟨ba, offa, rfl, e1, e2⟩ := HR7.out.1.2 i (by rw [HPN.out]; exact hlt)
                obtain ⟨heq, hjq⟩ := HF.out i hlt
                obtain ⟨bb, offb, rfl, f1, f2⟩ := HR7.out.2.2 i hjq
                have e1 := (HUs.out.cell (p := ⟨ba, offa + i * 2, none⟩) (cell_lt e1)).trans e1
                have e2 := (HUs.out.cell (p := ⟨ba, offa + i * 2 + 1, none⟩) (cell_lt e2)).trans e2
                have f1 := (HUs.out.cell (p := ⟨bb, offb + i * 2, none⟩) (cell_lt f1)).trans f1
                have f2 := (HUs.out.cell (p := ⟨bb, offb + i * 2 + 1, none⟩) (cell_lt f2)).trans f2
                rw [heq] at e1 e2
                clear heq hjq
                generalize Q.2.nts.getD i (0, 0) = x at *
                obtain ⟨x0, x1⟩ := x
                simp only at e1 e2 f1 f2
                have hne := neqNote_same x0 x1
                have hjc : (i : Int) < qn := by have := HA2.out; omega
                have hji : i < qn := by omega
                go_wp2_with fail
                go_quiet (fail)
                go_wp2_with fail
                go_roundw
                case rel => exact ⟨i + 1, by omega, by go_num, Lib.hid (HBs.out.up ((Up.refl _).drewN _)), Lib.hid (HUs.out.drewN _)⟩
                case measure => simp [intOf]; omega
              · have p0 := cell_of_row wr _ 0 _ _ _ HBs.out.1
                have p1 := cell_of_row wr _ 1 _ _ _ HBs.out.1
                simp only [List.getElem?_toArray, List.getElem?_cons_zero, List.getElem?_cons_succ] at p0 p1
                obtain rfl : i = pn := by omega
                clear hlt HF HR7
                have HUW := Lib.hid (HU7.out.trans HUs.out)
                clear HUs HBs
                go_wp2_with fail
                refine (HAL.out _).mono ?_
                rintro e w9 ⟨rfl, hU9⟩
                have HU9 := Lib.hid (HUW.out.trans hU9)
                clear hU9 HUW HAL
                go_wp2_with fail
                go_ret
                exact ⟨rfl, HU9.out⟩
    · obtain rfl : k = n := by omega
      clear hk hn il i0 i1
      have hk2 : (k : Int) ≤ 1000000 := by omega
      clear hs1 hs2 hs3 hA hB hC hkm hd1 hk1
      refine (HPA.out _ (Up.refl w2)).mono ?_
      rintro e w3 ⟨ov, rfl, hO, hU3⟩
      obtain ⟨X, cX, N, cN, L, cL, rfl, hx⟩ := hO
      have hbo := heap_alloc_new w3 (.cells #[.bool da, .slice X P.2.acc.length cX, .slice N P.2.nts.length cN, .slice L (shortL P.2.loc).length cL] 29)
      have hUo : Up w3 (w3.alloc (.cells #[.bool da, .slice X P.2.acc.length cX, .slice N P.2.nts.length cN, .slice L (shortL P.2.loc).length cL] 29)) := (Up.refl w3).alloc _
      have HX := Lib.hid (show OutR w3 (.agg #[.bool da, .slice X P.2.acc.length cX, .slice N P.2.nts.length cN, .slice L (shortL P.2.loc).length cL]) da P.2 from ⟨X, cX, N, cN, L, cL, rfl, hx.1, hx.2.1, hx.2.2.1⟩)
      have HXR := Lib.hid (show AccRow w3 X P.2.acc ∧ NoteRow w3 N P.2.nts from ⟨hx.1, hx.2.1⟩)
      have HU3 := Lib.hid hU3
      obtain ⟨qa, hqa⟩ : ∃ q, w3.heap.size = q := ⟨_, rfl⟩
      clear hU3 hx HPA
      obtain ⟨v, hv⟩ : ∃ x, P.1.getD 0 = x := ⟨_, rfl⟩
      rw [hv] at HCA ⊢
      obtain ⟨pa, hpa⟩ : ∃ x, P.2.acc.length = x := ⟨_, rfl⟩
      obtain ⟨pn, hpn⟩ : ∃ x, P.2.nts.length = x := ⟨_, rfl⟩
      obtain ⟨pl, hpl⟩ : ∃ x, (shortL P.2.loc).length = x := ⟨_, rfl⟩
      rw [hpa, hpn, hpl] at hbo hUo HX ⊢
      go_wp2_with fail
      rw [hqa] at hbo
      generalize w3.alloc (.cells #[.bool da, .slice X pa cX, .slice N pn cN, .slice L pl cL] 29) = w4 at *
      have HB4 := Lib.hid hbo
      have HU4 := Lib.hid (HU3.out.trans hUo)
      have HX4 := Lib.hid (HX.out.up hUo)
      have HR4 := Lib.hid (show AccRow w4 X P.2.acc ∧ NoteRow w4 N P.2.nts from ⟨HXR.out.1.up hUo, HXR.out.2.up hUo⟩)
      clear hbo hUo HX HXR HU3 hqa
      refine (HPB.out _ HU4.out).mono ?_
      rintro e w5 ⟨ov, rfl, hO, hU5⟩
      obtain ⟨Y, cY, M, cM, L2, cL2, rfl, hx⟩ := hO
      obtain ⟨db, hdb⟩ : ∃ x, Q.1.isSome = x := ⟨_, rfl⟩
      obtain ⟨u, hu⟩ : ∃ x, Q.1.getD 0 = x := ⟨_, rfl⟩
      obtain ⟨qc, hqc⟩ : ∃ x, Q.2.acc.length = x := ⟨_, rfl⟩
      obtain ⟨qn, hqn⟩ : ∃ x, Q.2.nts.length = x := ⟨_, rfl⟩
      obtain ⟨ql, hql⟩ : ∃ x, (shortL Q.2.loc).length = x := ⟨_, rfl⟩
      rw [hdb, hu] at HCA
      rw [hdb, hu, hqc, hqn, hql]
      have hbo := heap_alloc_new w5 (.cells #[.bool db, .slice Y qc cY, .slice M qn cM, .slice L2 ql cL2] 29)
      have hUo : Up w5 (w5.alloc (.cells #[.bool db, .slice Y qc cY, .slice M qn cM, .slice L2 ql cL2] 29)) := (Up.refl w5).alloc _
      have HY := Lib.hid (show OutR w5 (.agg #[.bool db, .slice Y qc cY, .slice M qn cM, .slice L2 ql cL2]) db Q.2 from ⟨Y, cY, M, cM, L2, cL2, by rw [hqc, hqn, hql], hx.1, hx.2.1, hx.2.2.1⟩)
      have HYR := Lib.hid (show AccRow w5 Y Q.2.acc ∧ NoteRow w5 M Q.2.nts from ⟨hx.1, hx.2.1⟩)
      have HU5 := Lib.hid hU5
      have hb4 := (hU5.block _ (Array.getElem?_eq_some_iff.1 HB4.out).1).trans HB4.out
      obtain ⟨qb, hqb⟩ : ∃ q, w5.heap.size = q := ⟨_, rfl⟩
      clear hU5 hx HPB
      rw [hqb] at hbo
      obtain ⟨w6, hw6⟩ : ∃ x, w5.alloc (.cells #[.bool db, .slice Y qc cY, .slice M qn cM, .slice L2 ql cL2] 29) = x := ⟨_, rfl⟩
      rw [hw6] at hbo hUo
      have HB6 := Lib.hid (show Boxes2 w6 qa qb #[.bool da, .slice X pa cX, .slice N pn cN, .slice L pl cL] #[.bool db, .slice Y qc cY, .slice M qn cM, .slice L2 ql cL2] from ⟨(hUo.block _ (Array.getElem?_eq_some_iff.1 hb4).1).trans hb4, hbo⟩)
      have HU6 := Lib.hid (show Up w w6 from ((HU2.out.trans HU4.out).trans HU5.out).trans hUo)
      have HS6 := Lib.hid (show OutR w6 (.agg #[.bool da, .slice X pa cX, .slice N pn cN, .slice L pl cL]) da P.2 ∧ OutR w6 (.agg #[.bool db, .slice Y qc cY, .slice M qn cM, .slice L2 ql cL2]) db Q.2 from ⟨(HX4.out.up HU5.out).up hUo, HY.out.up hUo⟩)
      have HR6 := Lib.hid (show (AccRow w6 X P.2.acc ∧ NoteRow w6 N P.2.nts) ∧ AccRow w6 Y Q.2.acc ∧ NoteRow w6 M Q.2.nts from ⟨⟨(HR4.out.1.up HU5.out).up hUo, (HR4.out.2.up HU5.out).up hUo⟩, HYR.out.1.up hUo, HYR.out.2.up hUo⟩)
      clear hbo hUo hb4 HX4 HY HR4 HYR HU5 HU4 HB4 HB0 HB1 HU2
      obtain ⟨ca, cb⟩ := HB6.out
      have ca0 := cell_of_row w6 _ 0 _ _ _ ca
      have ca1 := cell_of_row w6 _ 1 _ _ _ ca
      have ca2 := cell_of_row w6 _ 2 _ _ _ ca
      have ca3 := cell_of_row w6 _ 3 _ _ _ ca
      have cb0 := cell_of_row w6 _ 0 _ _ _ cb
      have cb1 := cell_of_row w6 _ 1 _ _ _ cb
      have cb2 := cell_of_row w6 _ 2 _ _ _ cb
      have cb3 := cell_of_row w6 _ 3 _ _ _ cb
      simp only [List.getElem?_toArray, List.getElem?_cons_zero, List.getElem?_cons_succ] at ca0 ca1 ca2 ca3 cb0 cb1 cb2 cb3
      have ha1 : (pa : Int) ≤ qc := by have := HPR.out.1.length_le; omega
      have ha2 : (pn : Int) ≤ qn := by have := HPR.out.2.length_le; omega
      have HPA := Lib.hid hpa
      have HPN := Lib.hid hpn
      have hba : (pa : Int) ≤ 1000000000 := by have := HLA.out.1; omega
      have hbn : (pn : Int) ≤ 1000000000 := by have := HLA.out.2.1; omega
      have hbc : (qc : Int) ≤ 1000000000 := by have := HLB.out.1; omega
      have hbm : (qn : Int) ≤ 1000000000 := by have := HLB.out.2.1; omega
      have HE := Lib.hid (show ∀ j, j < pa → P.2.acc.getD j (0, 0, 0) = Q.2.acc.getD j (0, 0, 0) ∧ j < Q.2.acc.length from fun j hj => by
        have hle := HPR.out.1.length_le
        have h1 : j < P.2.acc.length := by omega
        refine ⟨?_, by omega⟩
        rw [List.getD_eq_getElem?_getD, List.getD_eq_getElem?_getD, List.getElem?_eq_getElem h1, List.getElem?_eq_getElem (by omega), HPR.out.1.getElem h1])
      have HF := Lib.hid (show ∀ j, j < pn → P.2.nts.getD j (0, 0) = Q.2.nts.getD j (0, 0) ∧ j < Q.2.nts.length from fun j hj => by
        have hle := HPR.out.2.length_le
        have h1 : j < P.2.nts.length := by omega
        refine ⟨?_, by omega⟩
        rw [List.getD_eq_getElem?_getD, List.getD_eq_getElem?_getD, List.getElem?_eq_getElem h1, List.getElem?_eq_getElem (by omega), HPR.out.2.getElem h1])
      have HSM := Lib.hid (fun (h1 : da = true) (h2 : db = true) (h3 : sameB true true P.2.acc Q.2.acc P.2.nts Q.2.nts (shortL P.2.loc) (shortL Q.2.loc) = true) => same_out HS6.out.1 HS6.out.2 (by rw [h1, h2]; exact h3) HLA.out.1 HLA.out.2.1 HLA.out.2.2)
      have hcs := HCA.out
      rw [hpa] at hcs
      clear ca cb hv hpa hpn hpl hdb hu hqc hqn hql HCA HLA HLB HPR HS6 hll hla h
      rcases hcs with ⟨rfl, rfl, rfl, hsm, hle⟩ | ⟨rfl, rfl, hle⟩
      · have HSM2 := Lib.hid (HSM.out rfl rfl hsm)
        have hz1 : ((k : Int) + 1 < (pa : Int)) = False := by simp; omega
        have hz2 : (qc < pa) = False := by simp; omega
        have hz3 : (qn < pn) = False := by simp; omega
        have HA1 := Lib.hid ha1
        have HA2 := Lib.hid ha2
        clear ha1 ha2 hle
        clear hsm HSM
        subst hw6
        go_wp2_with fail
        generalize w5.alloc (.cells #[.bool true, .slice Y qc cY, .slice M qn cM, .slice L2 ql cL2] 29) = w6 at *
        refine HSM2.out.mono ?_
        rintro e w7 ⟨rfl, hU7⟩
        have HB7 := Lib.hid (HB6.out.up hU7)
        have HU7 := Lib.hid (HU6.out.trans hU7)
        have HR7 := Lib.hid (show (AccRow w7 X P.2.acc ∧ NoteRow w7 N P.2.nts) ∧ AccRow w7 Y Q.2.acc ∧ NoteRow w7 M Q.2.nts from ⟨⟨HR6.out.1.1.up hU7, HR6.out.1.2.up hU7⟩, HR6.out.2.1.up hU7, HR6.out.2.2.up hU7⟩)
        obtain ⟨ca, cb⟩ := HB7.out
        clear ca0 ca1 ca2 ca3 cb0 cb1 cb2 cb3
        have ca1 := cell_of_row w7 _ 1 _ _ _ ca
        have ca2 := cell_of_row w7 _ 2 _ _ _ ca
        have cb1 := cell_of_row w7 _ 1 _ _ _ cb
        have cb2 := cell_of_row w7 _ 2 _ _ _ cb
        simp only [List.getElem?_toArray, List.getElem?_cons_zero, List.getElem?_cons_succ] at ca1 ca2 cb1 cb2
        clear ca cb hU7 HU6 HR6 HB6 HSM2 hqb
        go_wp2_with fail
        clear ca1 ca2 cb1 cb2 hz1 hz2 hz3
        go_loopw [15] (fun t wr => ∃ j : Nat, j ≤ pa ∧ t = .int .i64 j ∧ Hid (Boxes2 wr qa qb #[.bool true, .slice X pa cX, .slice N pn cN, .slice L pl cL] #[.bool true, .slice Y qc cY, .slice M qn cM, .slice L2 ql cL2]) ∧ Hid (Up w7 wr)) (fun t _ => pa - (intOf t).toNat)
        case atStart => exact ⟨0, by omega, rfl, HB7, Lib.hid (Up.refl _)⟩
        case round =>
          obtain ⟨j, hj, rfl, HBr, HUr⟩ := hrel
          have q1 := cell_of_row wr _ 1 _ _ _ HBr.out.1
          have q2 := cell_of_row wr _ 1 _ _ _ HBr.out.2
          simp only [List.getElem?_toArray, List.getElem?_cons_zero, List.getElem?_cons_succ] at q1 q2
          by_cases hlt : j < pa
          · obtain ⟨ba, offa, rfl, e1, e2, e3⟩ := HR7.out.1.1 j (by rw [HPA.out]; exact hlt)
            obtain ⟨heq, hjq⟩ := HE.out j hlt
            obtain ⟨bb, offb, rfl, f1, f2, f3⟩ := HR7.out.2.1 j hjq
            have e1 := (HUr.out.cell (p := ⟨ba, offa + j * 3, none⟩) (cell_lt e1)).trans e1
            have e2 := (HUr.out.cell (p := ⟨ba, offa + j * 3 + 1, none⟩) (cell_lt e2)).trans e2
            have e3 := (HUr.out.cell (p := ⟨ba, offa + j * 3 + 2, none⟩) (cell_lt e3)).trans e3
            have f1 := (HUr.out.cell (p := ⟨bb, offb + j * 3, none⟩) (cell_lt f1)).trans f1
            have f2 := (HUr.out.cell (p := ⟨bb, offb + j * 3 + 1, none⟩) (cell_lt f2)).trans f2
            have f3 := (HUr.out.cell (p := ⟨bb, offb + j * 3 + 2, none⟩) (cell_lt f3)).trans f3
            rw [heq] at e1 e2 e3
            clear heq hjq
            generalize Q.2.acc.getD j (0, 0, 0) = x at *
            obtain ⟨x0, x1, x2⟩ := x
            simp only at e1 e2 e3 f1 f2 f3
            have hne := neqAcc_same x0 x1 x2
            have hjc : (j : Int) < qc := by have := HA1.out; omega
            have hji : j < qc := by omega
            go_wp2_with fail
            go_quiet (fail)
            go_wp2_with fail
            go_roundw
            case rel => exact ⟨j + 1, by omega, by go_num, Lib.hid (HBr.out.up ((Up.refl _).drewN _)), Lib.hid (HUr.out.drewN _)⟩
            case measure => simp [intOf]; omega
          · obtain rfl : j = pa := by omega
            clear hlt HE
            go_wp2_with fail
            go_loopw [16] (fun t wr => ∃ i : Nat, i ≤ pn ∧ t = .int .i64 i ∧ Hid (Boxes2 wr qa qb #[.bool true, .slice X j cX, .slice N pn cN, .slice L pl cL] #[.bool true, .slice Y qc cY, .slice M qn cM, .slice L2 ql cL2]) ∧ Hid (Up w7 wr)) (fun t _ => pn - (intOf t).toNat)
            case atStart => exact ⟨0, by omega, rfl, HBr, HUr⟩
            case round =>
              clear HBr HUr q1 q2
              obtain ⟨i, hi, rfl, HBs, HUs⟩ := hrel
              have q1 := cell_of_row wr _ 2 _ _ _ HBs.out.1
              have q2 := cell_of_row wr _ 2 _ _ _ HBs.out.2
              simp only [List.getElem?_toArray, List.getElem?_cons_zero, List.getElem?_cons_succ] at q1 q2
              by_cases hlt : i < pn
              · obtain ⟨ba, offa, rfl, e1, e2⟩ := HR7.out.1.2 i (by rw [HPN.out]; exact hlt)
                obtain ⟨heq, hjq⟩ := HF.out i hlt
                obtain ⟨bb, offb, rfl, f1, f2⟩ := HR7.out.2.2 i hjq
                have e1 := (HUs.out.cell (p := ⟨ba, offa + i * 2, none⟩) (cell_lt e1)).trans e1
                have e2 := (HUs.out.cell (p := ⟨ba, offa + i * 2 + 1, none⟩) (cell_lt e2)).trans e2
                have f1 := (HUs.out.cell (p := ⟨bb, offb + i * 2, none⟩) (cell_lt f1)).trans f1
                have f2 := (HUs.out.cell (p := ⟨bb, offb + i * 2 + 1, none⟩) (cell_lt f2)).trans f2
                rw [heq] at e1 e2
                clear heq hjq
                generalize Q.2.nts.getD i (0, 0) = x at *
                obtain ⟨x0, x1⟩ := x
                simp only at e1 e2 f1 f2
                have hne := neqNote_same x0 x1
                have hjc : (i : Int) < qn := by have := HA2.out; omega
                have hji : i < qn := by omega
                go_wp2_with fail
                go_quiet (fail)
                go_wp2_with fail
                go_roundw
                case rel => exact ⟨i + 1, by omega, by go_num, Lib.hid (HBs.out.up ((Up.refl _).drewN _)), Lib.hid (HUs.out.drewN _)⟩
                case measure => simp [intOf]; omega
              · have p0 := cell_of_row wr _ 0 _ _ _ HBs.out.1
                have p1 := cell_of_row wr _ 1 _ _ _ HBs.out.1
                simp only [List.getElem?_toArray, List.getElem?_cons_zero, List.getElem?_cons_succ] at p0 p1
                obtain rfl : i = pn := by omega
                clear hlt HF HR7
                have HUW := Lib.hid (HU7.out.trans HUs.out)
                clear HUs HBs
                go_wp2_with fail
                refine (HAL.out _).mono ?_
                rintro e w9 ⟨rfl, hU9⟩
                have HU9 := Lib.hid (HUW.out.trans hU9)
                clear hU9 HUW HAL
                go_wp2_with fail
                go_ret
                exact ⟨rfl, HU9.out⟩
      · have hz1 : ((k : Int) + 1 < (pa : Int)) = False := by simp; omega
        have hz2 : (qc < pa) = False := by simp; omega
        have hz3 : (qn < pn) = False := by simp; omega
        have HA1 := Lib.hid ha1
        have HA2 := Lib.hid ha2
        have hpe : ((pa : Int) == (k : Int) + 1) = true := by rw [beq_iff_eq]; omega
        have HB7 := HB6
        have HU7 := HU6
        have HR7 := HR6
        clear ha1 ha2 hle HSM HB6 HU6 HR6
        subst hw6
        go_wp2_with fail
        generalize w5.alloc (.cells #[.bool db, .slice Y qc cY, .slice M qn cM, .slice L2 ql cL2] 29) = w7 at *
        clear ca0 ca1 ca2 ca3 cb0 cb1 cb2 cb3 hz1 hz2 hz3
        go_loopw [15] (fun t wr => ∃ j : Nat, j ≤ pa ∧ t = .int .i64 j ∧ Hid (Boxes2 wr qa qb #[.bool false, .slice X pa cX, .slice N pn cN, .slice L pl cL] #[.bool db, .slice Y qc cY, .slice M qn cM, .slice L2 ql cL2]) ∧ Hid (Up w7 wr)) (fun t _ => pa - (intOf t).toNat)
        case atStart => exact ⟨0, by omega, rfl, HB7, Lib.hid (Up.refl _)⟩
        case round =>
          obtain ⟨j, hj, rfl, HBr, HUr⟩ := hrel
          have q1 := cell_of_row wr _ 1 _ _ _ HBr.out.1
          have q2 := cell_of_row wr _ 1 _ _ _ HBr.out.2
          simp only [List.getElem?_toArray, List.getElem?_cons_zero, List.getElem?_cons_succ] at q1 q2
          by_cases hlt : j < pa
          · obtain ⟨ba, offa, rfl, e1, e2, e3⟩ := HR7.out.1.1 j (by rw [HPA.out]; exact hlt)
            obtain ⟨heq, hjq⟩ := HE.out j hlt
            obtain ⟨bb, offb, rfl, f1, f2, f3⟩ := HR7.out.2.1 j hjq
            have e1 := (HUr.out.cell (p := ⟨ba, offa + j * 3, none⟩) (cell_lt e1)).trans e1
            have e2 := (HUr.out.cell (p := ⟨ba, offa + j * 3 + 1, none⟩) (cell_lt e2)).trans e2
            have e3 := (HUr.out.cell (p := ⟨ba, offa + j * 3 + 2, none⟩) (cell_lt e3)).trans e3
            have f1 := (HUr.out.cell (p := ⟨bb, offb + j * 3, none⟩) (cell_lt f1)).trans f1
            have f2 := (HUr.out.cell (p := ⟨bb, offb + j * 3 + 1, none⟩) (cell_lt f2)).trans f2
            have f3 := (HUr.out.cell (p := ⟨bb, offb + j * 3 + 2, none⟩) (cell_lt f3)).trans f3
            rw [heq] at e1 e2 e3
            clear heq hjq
            generalize Q.2.acc.getD j (0, 0, 0) = x at *
            obtain ⟨x0, x1, x2⟩ := x
            simp only at e1 e2 e3 f1 f2 f3
            have hne := neqAcc_same x0 x1 x2
            have hjc : (j : Int) < qc := by have := HA1.out; omega
            have hji : j < qc := by omega
            go_wp2_with fail
            go_quiet (fail)
            go_wp2_with fail
            go_roundw
            case rel => exact ⟨j + 1, by omega, by go_num, Lib.hid (HBr.out.up ((Up.refl _).drewN _)), Lib.hid (HUr.out.drewN _)⟩
            case measure => simp [intOf]; omega
          · obtain rfl : j = pa := by omega
            clear hlt HE
            go_wp2_with fail
            go_loopw [16] (fun t wr => ∃ i : Nat, i ≤ pn ∧ t = .int .i64 i ∧ Hid (Boxes2 wr qa qb #[.bool false, .slice X j cX, .slice N pn cN, .slice L pl cL] #[.bool db, .slice Y qc cY, .slice M qn cM, .slice L2 ql cL2]) ∧ Hid (Up w7 wr)) (fun t _ => pn - (intOf t).toNat)
            case atStart => exact ⟨0, by omega, rfl, HBr, HUr⟩
            case round =>
              clear HBr HUr q1 q2
              obtain ⟨i, hi, rfl, HBs, HUs⟩ := hrel
              have q1 := cell_of_row wr _ 2 _ _ _ HBs.out.1
              have q2 := cell_of_row wr _ 2 _ _ _ HBs.out.2
              simp only [List.getElem?_toArray, List.getElem?_cons_zero, List.getElem?_cons_succ] at q1 q2
              by_cases hlt : i < pn
              · obtain ⟨ba, offa, rfl, e1, e2⟩ := HR7.out.1.2 i (by rw [HPN.out]; exact hlt)
                obtain ⟨heq, hjq⟩ := HF.out i hlt
                obtain ⟨bb, offb, rfl, f1, f2⟩ := HR7.out.2.2 i hjq
                have e1 := (HUs.out.cell (p := ⟨ba, offa + i * 2, none⟩) (cell_lt e1)).trans e1
                have e2 := (HUs.out.cell (p := ⟨ba, offa + i * 2 + 1, none⟩) (cell_lt e2)).trans e2
                have f1 := (HUs.out.cell (p := ⟨bb, offb + i * 2, none⟩) (cell_lt f1)).trans f1
                have f2 := (HUs.out.cell (p := ⟨bb, offb + i * 2 + 1, none⟩) (cell_lt f2)).trans f2
                rw [heq] at e1 e2
                clear heq hjq
                generalize Q.2.nts.getD i (0, 0) = x at *
                obtain ⟨x0, x1⟩ := x
                simp only at e1 e2 f1 f2
                have hne := neqNote_same x0 x1
                have hjc : (i : Int) < qn := by have := HA2.out; omega
                have hji : i < qn := by omega
                go_wp2_with fail
                go_quiet (fail)
                go_wp2_with fail
                go_roundw
                case rel => exact ⟨i + 1, by omega, by go_num, Lib.hid (HBs.out.up ((Up.refl _).drewN _)), Lib.hid (HUs.out.drewN _)⟩
                case measure => simp [intOf]; omega
              · have p0 := cell_of_row wr _ 0 _ _ _ HBs.out.1
                have p1 := cell_of_row wr _ 1 _ _ _ HBs.out.1
                simp only [List.getElem?_toArray, List.getElem?_cons_zero, List.getElem?_cons_succ] at p0 p1
                obtain rfl : i = pn := by omega
                clear hlt HF HR7
                have HUW := Lib.hid (HU7.out.trans HUs.out)
                clear HUs HBs
                go_wp2_with fail
                refine (HAL.out _).mono ?_
                rintro e w9 ⟨rfl, hU9⟩
                have HU9 := Lib.hid (HUW.out.trans hU9)
                clear hU9 HUW HAL
                go_wp2_with fail
                go_ret
                exact ⟨rfl, HU9.out⟩
  · have hdd : (decide ((100 : Int) < (l.length : Int)) || decide ((100 : Int) < (loc.length : Int)) || decide ((100 : Int) < (ans.length : Int))) = true := by
      simp only [Bool.or_eq_true, decide_eq_true_eq]
      omega
    clear hr hr0 hr1 hk hs
    go_enter Try.func4, Try.ntmps4
    obtain ⟨W0, hW0⟩ : ∃ x, w.alloc (.cells #[.slice A l.length c] 22) = x := ⟨_, rfl⟩
    have hb1 := heap_alloc_new W0 (.cells #[.slice A0 loc.length c0] 23)
    have hU1 : Up W0 (W0.alloc (.cells #[.slice A0 loc.length c0] 23)) := (Up.refl W0).alloc _
    rw [hW0] at hb0 hU0 hs0
    have hb0' := (hU1.block _ (Array.getElem?_eq_some_iff.1 hb0).1).trans hb0
    subst hW0
    have hq0 := cell_of_row _ _ 0 _ _ _ hb0'
    have hq1 := cell_of_row _ _ 0 _ _ _ hb1
    simp only [List.getElem?_toArray, List.getElem?_cons_zero] at hq0 hq1
    rw [hs0] at hq1
    have HU := Lib.hid (hU0.trans hU1)
    clear hb0 hb1 hb0' hU0 hU1 hs0
    go_wp2_with fail
    all_goals
      refine (HAL.out _).mono ?_
      rintro e w1 ⟨rfl, hU1⟩
      have HU1 := Lib.hid (HU.out.trans hU1)
      clear hU1 HU HAL hq0 hq1
      go_wp2_with fail
      go_ret
      exact ⟨rfl, HU1.out⟩

end Go.Proofs.Ytpandnodeldbjaa

