/-
  Begin of a bank: the walk.
-/
import Derived.Test.YtedkgamecdmjdaaBankH
import Derived.Deep.RegionLaw
import Derived.Deep.RegionHeld3
set_option linter.unusedVariables false
set_option linter.unusedSimpArgs false
namespace Go.Proofs.Ytedkgamecdmjdaa
open Go.RowKit

theorem wf_small {n : Int} (h0 : 0 ≤ n) (h1 : n < 32768) : Wf n := by unfold Wf; simp [Lit.wf, IntKind.min, IntKind.max, IntKind.signed, IntKind.bits]; omega

/-- What Begin leaves, by the cell's answer. -/
def begR (er : Int) (s s1 : BS) : Int × BS := if er ≠ 0 then (er, s) else (0, s1)
theorem begR_err {er : Int} {s s1 : BS} (h : er ≠ 0) : begR er s s1 = (er, s) := by unfold begR; rw [if_pos h]
theorem begR_ok {s s1 : BS} : begR 0 s s1 = (0, s1) := by unfold begR; rw [if_neg (by simp)]

set_option maxRecDepth 10000 in
set_option maxHeartbeats 4000000 in
theorem beginM_any (l : List SD) (B h N : Nat) (s : BS) (X : Nat → Prop) (t k cl v : Int) (w : World) (hfit : Fit l) (ht0 : -9223372036854775808 ≤ t) (ht1 : t ≤ 9223372036854775807) (H : BankM w B h l s N X) (hN : N ≤ 900) :
    Calls Try.prog 33 #[.pointer (some ⟨h, 0, none⟩), .int .i64 t, .agg #[.int .i64 k, .int .i64 cl, .int .i64 v]] w fun e w' => e = .returned (.int .i64 (s.begin (cntK l l.length) 6 (mkP l) t k cl v).1) ∧ BankM w' B h l (s.begin (cntK l l.length) 6 (mkP l) t k cl v).2 (N + 9) (XG X w w') ∧ Fr w w' X := by
  have HH := Lib.hid H
  have HB := Lib.hid (show B ≤ w.heap.size from by
    obtain ⟨m, R, sz, F, MS, h1, h2, h3, h4, h5, h6⟩ := H
    have := h4 _ h3.1; omega)
  have hUb : Up w (w.alloc (.cells #[.int .i64 k, .int .i64 cl, .int .i64 v] 55)) := (Up.refl w).alloc _
  have hbx := heap_alloc_new w (.cells #[.int .i64 k, .int .i64 cl, .int .i64 v] 55)
  obtain ⟨W, hW⟩ : ∃ x, w.alloc (.cells #[.int .i64 k, .int .i64 cl, .int .i64 v] 55) = x := ⟨_, rfl⟩
  rw [hW] at hUb hbx
  have HW := Lib.hid hW
  have HU := Lib.hid hUb
  have HBX := Lib.hid hbx
  have b1 := cell_of_row _ _ 1 _ _ _ hbx
  simp only [List.getElem?_toArray, List.getElem?_cons_zero, List.getElem?_cons_succ] at b1
  have HKP : Hid (∀ w2, Up w w2 → BankM w2 B h l s (N + 9) (XG X w w2) ∧ Fr w w2 X) := Lib.hid (fun w2 u => ⟨(HH.out.up u).more (by omega) (fun k hk => .inl hk) (XG.ge HH.out.lt u.size HB.out), Fr.ofUp u⟩)
  obtain ⟨m, R, sz, F, MS, h1, h2, h3, h4, h5, h6⟩ := H
  have HHAS := Lib.hid (bhas_any h R _ m s.by' cl W (h1.up hUb).blk)
  have HBU := Lib.hid (bbusy_any h R _ m s t W ht0 ht1 (h1.up hUb).blk)
  clear hW hUb hbx
  by_cases hin : 0 ≤ cl ∧ cl < cntK l l.length
  rotate_left
  · have e0 : s.begin (cntK l l.length) 6 (mkP l) t k cl v = (6, s) := by unfold BS.begin; rw [if_pos hin]
    rw [e0]
    rw [decide_eq_false hin] at HHAS
    clear h1 h2 h3 h4 h5 h6 e0 hin
    go_enter Try.func33, Try.ntmps33
    go_wp2_with fail
    rw [HW.out]
    go_wp2_with fail
    refine HHAS.out.mono ?_
    rintro e w2 ⟨rfl, rfl⟩
    go_wp2_with fail
    go_ret
    exact ⟨rfl, HKP.out _ HU.out⟩
  rw [decide_eq_true hin] at HHAS
  have hwf := wf_small hin.1 (show cl < 32768 from by have := hfit.few; omega)
  obtain ⟨bq, hbq⟩ : ∃ q, s.busy t = q := ⟨_, rfl⟩
  obtain ⟨bq1, bq2⟩ := bq
  rw [hbq] at HBU
  dsimp only at HBU
  cases bq2
  rotate_left
  · have e0 : s.begin (cntK l l.length) 6 (mkP l) t k cl v = (12, s) := by unfold BS.begin; rw [if_neg (by simpa using hin), hbq, if_pos rfl]
    rw [e0]
    clear h1 h2 h3 h4 h5 h6 e0 hin hbq
    go_enter Try.func33, Try.ntmps33
    go_wp2_with fail
    rw [HW.out]
    go_wp2_with fail
    refine HHAS.out.mono ?_
    rintro e w2 ⟨rfl, rfl⟩
    go_wp2_with fail
    refine HBU.out.mono ?_
    rintro e w3 ⟨rfl, hu3⟩
    have HU3 := Lib.hid (HU.out.trans hu3)
    clear hu3
    go_wp2_with fail
    go_ret
    exact ⟨rfl, HKP.out _ HU3.out⟩
  obtain ⟨c, hc⟩ : ∃ c, (getU s.u cl).getD (mkP l cl) = c := ⟨_, rfl⟩
  have e0 : s.begin (cntK l l.length) 6 (mkP l) t k cl v = begR (c.begin t k v).1 s { u := putU s.u cl (c.begin t k v).2, by' := fun i => if i = t.toNat then (true, cl) else s.by' i } := by
    unfold BS.begin begR; rw [if_neg (by simpa using hin), hbq, if_neg (by simp), hc]
  have HGD := Lib.hid (show BS.Good (s.begin (cntK l l.length) 6 (mkP l) t k cl v).2 from h6.begin _ _ _ _ _ _ _)
  obtain ⟨er, hE1⟩ : ∃ er, (c.begin t k v).1 = er := ⟨_, rfl⟩
  obtain ⟨c', hE2⟩ : ∃ c', (c.begin t k v).2 = c' := ⟨_, rfl⟩
  rw [hE1, hE2] at e0
  rw [e0] at HGD ⊢
  have HE1 := Lib.hid hE1
  have HE2 := Lib.hid hE2
  clear e0 hE1 hE2
  have HX := Lib.hid h3
  have HXL := Lib.hid h4
  have HSZ := Lib.hid h5
  have HG0 := Lib.hid h6
  have HO := Lib.hid h1
  have HC := Lib.hid h2
  have HFU := Lib.hid (h2.dom cl)
  have HWF := Lib.hid hwf
  have HIN := Lib.hid (show 0 ≤ cl ∧ cl < endK l l.length from by rw [cnt_end hfit.all hfit.few]; exact hin)
  have HFT := Lib.hid hfit
  clear h1 h2 h3 h4 h5 h6 hin hwf hbq
  go_enter Try.func33, Try.ntmps33
  go_wp2_with fail
  rw [HW.out]
  go_wp2_with fail
  refine HHAS.out.mono ?_
  rintro e w2 ⟨rfl, rfl⟩
  go_wp2_with fail
  refine HBU.out.mono ?_
  rintro e w3 ⟨rfl, hu3⟩
  have HU3 := Lib.hid (HU.out.trans hu3)
  have HB3 := Lib.hid ((hu3.block w.heap.size (by have := HBX.out; exact (Array.getElem?_eq_some_iff.1 this).1)).trans HBX.out)
  have HO3 := Lib.hid (HO.out.up (HU3.out.trans (Up.refl w3).drew))
  have b1 := cell_of_row _ _ 1 _ _ _ HB3.out
  simp only [List.getElem?_toArray, List.getElem?_cons_zero, List.getElem?_cons_succ] at b1
  have hSS : w3.drew.cell? ⟨h, 2, none⟩ = some (.map (some m)) ∧ w3.drew.cell? ⟨w.heap.size, 1, none⟩ = some (.int .i64 cl) ∧ (Instr.lookup 86 (.map (some m)) (.int .i64 cl) true).run Try.prog w3.drew = .ok (.tuple #[ptrV (F cl), .bool (F cl).isSome]) w3.drew := ⟨HO3.out.blk.k2, b1, HO3.out.map.lookOk HWF.out⟩
  clear hu3
  go_wp2_with fail
  refine wp_region_held_drew (S := fun w' => w'.cell? ⟨h, 2, none⟩ = some (.map (some m)) ∧ w'.cell? ⟨w.heap.size, 1, none⟩ = some (.int .i64 cl) ∧ (Instr.lookup 86 (.map (some m)) (.int .i64 cl) true).run Try.prog w' = .ok (.tuple #[ptrV (F cl), .bool (F cl).isSome]) w') (by kernel_rfl) hSS (fun hS0 => ?_)
  clear hSS
  refine wpAnyH_take (i := 0) (v := ?_) rfl (by kernel_rfl) (by kernel_rfl) (by kernel_rfl) (fun _ _ _ h => h) (Or.inl ⟨by kernel_rfl, ?_⟩) hS0 ?_
  rotate_left
  · intro w hSw
    try dsimp only at hSw
    go_simp
    try (with_reducible rfl)
  try simp only [Act.put, List.setIfInBounds_toArray, List.set_cons_zero, List.set_cons_succ]
  refine wpAnyH_take (i := 1) (v := ?_) rfl (by kernel_rfl) (by kernel_rfl) (by kernel_rfl) (fun _ _ _ h => h) (Or.inl ⟨by kernel_rfl, ?_⟩) hS0 ?_
  rotate_left
  · intro w hSw
    try dsimp only at hSw
    go_simp
    try (with_reducible rfl)
  try simp only [Act.put, List.setIfInBounds_toArray, List.set_cons_zero, List.set_cons_succ]
  refine wpAnyH_take (i := 2) (v := ?_) rfl (by kernel_rfl) (by kernel_rfl) (by kernel_rfl) (fun _ _ _ h => h) (Or.inl ⟨by kernel_rfl, ?_⟩) hS0 ?_
  rotate_left
  · intro w hSw
    try dsimp only at hSw
    go_simp
    try (with_reducible rfl)
  try simp only [Act.put, List.setIfInBounds_toArray, List.set_cons_zero, List.set_cons_succ]
  refine wpAnyH_take (i := 3) (v := ?_) rfl (by kernel_rfl) (by kernel_rfl) (by kernel_rfl) (fun _ _ _ h => h) (Or.inl ⟨by kernel_rfl, ?_⟩) hS0 ?_
  rotate_left
  · intro w hSw
    try dsimp only at hSw
    go_simp
    try (with_reducible rfl)
  try simp only [Act.put, List.setIfInBounds_toArray, List.set_cons_zero, List.set_cons_succ]
  refine wpAnyH_take (i := 4) (v := ?_) rfl (by kernel_rfl) (by kernel_rfl) (by kernel_rfl) (fun _ _ _ h => h) (Or.inl ⟨by kernel_rfl, ?_⟩) hS0 ?_
  rotate_left
  · intro w hSw
    try dsimp only at hSw
    go_simp
    try (with_reducible rfl)
  try simp only [Act.put, List.setIfInBounds_toArray, List.set_cons_zero, List.set_cons_succ]
  refine wpAnyH_take (i := 5) (v := ?_) rfl (by kernel_rfl) (by kernel_rfl) (by kernel_rfl) (fun _ _ _ h => h) (Or.inl ⟨by kernel_rfl, ?_⟩) hS0 ?_
  rotate_left
  · intro w hSw
    try dsimp only at hSw
    go_simp
    try (with_reducible rfl)
  try simp only [Act.put, List.setIfInBounds_toArray, List.set_cons_zero, List.set_cons_succ]
  refine wpAnyH_take (i := 6) (v := ?_) rfl (by kernel_rfl) (by kernel_rfl) (by kernel_rfl) (fun _ _ _ h => h) (Or.inl ⟨by kernel_rfl, ?_⟩) hS0 ?_
  rotate_left
  · intro w hSw
    try dsimp only at hSw
    go_simp
    try (with_reducible rfl)
  try simp only [Act.put, List.setIfInBounds_toArray, List.set_cons_zero, List.set_cons_succ]
  refine wpAnyH_take (i := 7) (v := ?_) rfl (by kernel_rfl) (by kernel_rfl) (by kernel_rfl) (fun _ _ _ h => h) (Or.inl ⟨by kernel_rfl, ?_⟩) hS0 ?_
  rotate_left
  · intro w hSw
    try dsimp only at hSw
    go_simp
    try (with_reducible rfl)
  try simp only [Act.put, List.setIfInBounds_toArray, List.set_cons_zero, List.set_cons_succ]
  refine wpAnyH_take (i := 8) (v := ?_) rfl (by kernel_rfl) (by kernel_rfl) (by kernel_rfl) (fun _ _ _ h => h) (Or.inl ⟨by kernel_rfl, ?_⟩) hS0 ?_
  rotate_left
  · intro w hSw
    try dsimp only at hSw
    go_simp
    try (with_reducible rfl)
  try simp only [Act.put, List.setIfInBounds_toArray, List.set_cons_zero, List.set_cons_succ]
  refine wpAnyH_take (i := 9) (v := ?_) rfl (by kernel_rfl) (by kernel_rfl) (by kernel_rfl) (fun _ _ _ h => h) (Or.inl ⟨by kernel_rfl, ?_⟩) hS0 ?_
  rotate_left
  · intro w hSw
    try dsimp only at hSw
    go_simp
    try (with_reducible rfl)
  try simp only [Act.put, List.setIfInBounds_toArray, List.set_cons_zero, List.set_cons_succ]
  refine wpAnyH_take (i := 10) (v := ?_) rfl (by kernel_rfl) (by kernel_rfl) (by kernel_rfl) (fun _ _ _ h => h) (Or.inl ⟨by kernel_rfl, ?_⟩) hS0 ?_
  rotate_left
  · intro w hSw
    try dsimp only at hSw
    go_simp
    try (with_reducible rfl)
  try simp only [Act.put, List.setIfInBounds_toArray, List.set_cons_zero, List.set_cons_succ]
  refine wpAnyH_take (i := 11) (v := ?_) rfl (by kernel_rfl) (by kernel_rfl) (by kernel_rfl) (fun _ _ _ h => h) (Or.inl ⟨by kernel_rfl, ?_⟩) hS0 ?_
  rotate_left
  · intro w hSw
    try dsimp only at hSw
    go_simp
    try (with_reducible rfl)
  try simp only [Act.put, List.setIfInBounds_toArray, List.set_cons_zero, List.set_cons_succ]
  refine wpAnyH_done (by kernel_rfl) ?_ _
  try simp only [Act.put, List.setIfInBounds_toArray, List.set_cons_zero, List.set_cons_succ, List.getElem_toArray, List.getElem_cons_succ, List.getElem_cons_zero]
  clear hS0
  have HU3D := Lib.hid (HU3.out.trans (Up.refl w3).drew)
  have HBD := Lib.hid (show w3.drew.heap[w.heap.size]? = some (.cells #[.int .i64 k, .int .i64 cl, .int .i64 v] 55) from HB3.out)
  clear HO3 b1
  generalize w3.drew = w4 at *
  obtain ⟨oF, hoF⟩ : ∃ o, F cl = o := ⟨_, rfl⟩
  rw [hoF] at HFU ⊢
  have HoF := Lib.hid hoF
  have HHC := Lib.hid hc
  clear hoF hc
  cases oF with
  | some g =>
    have hcu : getU s.u cl = some c := by
      have h1 := HFU.out
      have h2 := HHC.out
      cases hg : getU s.u cl with
      | none => rw [hg] at h1; cases h1
      | some d => rw [hg] at h2; rw [← h2]; rfl
    have HAH := Lib.hid (atHand_old (N := N) HO.out HC.out HU3D.out HoF.out hcu)
    clear hcu
    unfold ptrV
    dsimp only
    have HAB : Hid (∀ x, Ft g (MS cl) x → x ≠ w.heap.size) := Lib.hid (fun x hx e => by have := HC.out.lt HoF.out hx; omega)
    have HBX5 := Lib.hid HBD.out
    obtain ⟨MS1, hMS⟩ : ∃ x, MS = x := ⟨_, rfl⟩
    obtain ⟨w5, hw5⟩ : ∃ x, w4 = x := ⟨_, rfl⟩
    have HC0 := Lib.hid HC.out
    rw [hMS] at HAH HAB
    rw [hw5] at HAH HBX5 ⊢
    clear hMS hw5
    have b0 := cell_of_row _ _ 0 _ _ _ HBX5.out
    have b1 := cell_of_row _ _ 1 _ _ _ HBX5.out
    have b2 := cell_of_row _ _ 2 _ _ _ HBX5.out
    simp only [List.getElem?_toArray, List.getElem?_cons_zero, List.getElem?_cons_succ] at b0 b1 b2
    have HBG := Lib.hid (begin_any g g N c _ t k cl v w5 (HAH.out.cs.cell cl g c HAH.out.at' HAH.out.u).1 (HAH.out.cs.cell cl g c HAH.out.at' HAH.out.u).2 hN)
    rw [HE1.out, HE2.out] at HBG
    have HGC := Lib.hid ((HAH.out.cs.cell cl g c HAH.out.at' HAH.out.u).2.begin t k v)
    rw [HE2.out] at HGC
    have HNB := Lib.hid (show ∀ x, Ft g (MS1 cl) x → x ≠ w.heap.size from fun x hx e => HAB.out x hx e)
    go_wp2_with fail
    refine HBG.out.mono ?_
    rintro e w6 ⟨rfl, ms', hc6, hf6⟩
    by_cases her : er = 0
    rotate_left
    · have hst := begin_stay c t k v (by rw [HE1.out]; exact her)
      rw [HE2.out] at hst
      rw [hst] at hc6
      have HR := Lib.hid (HAH.out.fail hf6 hc6 HX.out HXL.out HB.out HSZ.out HG0.out)
      have hne : (er != 0) = true := by rw [bne_iff_ne]; exact her
      have HER := Lib.hid her
      clear her hst hc6 hf6 b0 b1 b2
      go_wp2_with fail
      go_ret
      rw [begR_err HER.out]
      exact ⟨rfl, HR.out⟩
    · obtain ⟨p0, p1⟩ := begin_in c t k v (by rw [HE1.out]; exact her)
      obtain ⟨tn, rfl⟩ : ∃ tn : Nat, t = tn := ⟨t.toNat, by omega⟩
      have htn : tn < 8 := by omega
      subst her
      rw [begR_ok] at HGD
      rw [Int.toNat_natCast] at HGD
      have hbx6 := (hf6.block w.heap.size (Array.getElem?_eq_some_iff.1 HBX5.out).1 (fun e => HNB.out g (.inl rfl) e.symm) (fun i hi e => HNB.out _ (.inr ⟨i, hi, e⟩) rfl)).trans HBX5.out
      have HBX6 := Lib.hid hbx6
      have HO6 := Lib.hid ((HAH.out.o4 hf6).up (Up.refl w6).drew)
      obtain ⟨w7, hrun, ho7, hg7⟩ := HO6.out.store (show sz < maxLen from by unfold maxLen; have := HSZ.out; omega) HWF.out g
      have HDN := Lib.hid (HAH.out.done (w5 := w6.drew) (w6 := w7) hf6 hc6 HGC.out HX.out HXL.out HB.out HSZ.out htn (Up.refl w6).drew hg7 ho7 HGD.out w7 (Up.refl w7))
      have HO7 := Lib.hid ho7
      have HDN2 := Lib.hid (And.intro (HDN.out.1.up (Up.refl _).drew) (Fr.same HDN.out.2 (Fr.ofUp (X := X) (Up.refl _).drew)))
      have hmw : w.heap.size ≠ m := fun e => by have := HO.out.map.isLt; omega
      have HBX7 := Lib.hid (show w7.heap[w.heap.size]? = _ from (hg7.block w.heap.size (Array.getElem?_eq_some_iff.1 hbx6).1 (fun e => hmw (by injection e))).trans hbx6)
      have hhw : w.heap.size ≠ h := fun e => by have := HO.out.blk.lt; omega
      clear hc6 hf6 ho7 hg7 p0 p1
      have c1 := cell_of_row _ _ 1 _ _ _ HBX6.out
      simp only [List.getElem?_toArray, List.getElem?_cons_zero, List.getElem?_cons_succ] at c1
      have hSS : w6.drew.cell? ⟨h, 2, none⟩ = some (.map (some m)) ∧ w6.drew.cell? ⟨w.heap.size, 1, none⟩ = some (.int .i64 cl) := ⟨HO6.out.blk.k2, c1⟩
      clear b0 b1 b2 c1
      go_wp2_with fail
      refine wp_region_held_drew (S := fun w' => w'.cell? ⟨h, 2, none⟩ = some (.map (some m)) ∧ w'.cell? ⟨w.heap.size, 1, none⟩ = some (.int .i64 cl)) (by kernel_rfl) hSS (fun hS0 => ?_)
      clear hSS
      refine wpAnyH_take (i := 0) (v := ?_) rfl (by kernel_rfl) (by kernel_rfl) (by kernel_rfl) (fun _ _ _ h => h) (Or.inl ⟨by kernel_rfl, ?_⟩) hS0 ?_
      rotate_left
      · intro w hSw
        try dsimp only at hSw
        go_simp
        try (with_reducible rfl)
      try simp only [Act.put, List.setIfInBounds_toArray, List.set_cons_zero, List.set_cons_succ]
      refine wpAnyH_take (i := 1) (v := ?_) rfl (by kernel_rfl) (by kernel_rfl) (by kernel_rfl) (fun _ _ _ h => h) (Or.inl ⟨by kernel_rfl, ?_⟩) hS0 ?_
      rotate_left
      · intro w hSw
        try dsimp only at hSw
        go_simp
        try (with_reducible rfl)
      try simp only [Act.put, List.setIfInBounds_toArray, List.set_cons_zero, List.set_cons_succ]
      refine wpAnyH_take (i := 2) (v := ?_) rfl (by kernel_rfl) (by kernel_rfl) (by kernel_rfl) (fun _ _ _ h => h) (Or.inl ⟨by kernel_rfl, ?_⟩) hS0 ?_
      rotate_left
      · intro w hSw
        try dsimp only at hSw
        go_simp
        try (with_reducible rfl)
      try simp only [Act.put, List.setIfInBounds_toArray, List.set_cons_zero, List.set_cons_succ]
      refine wpAnyH_take (i := 3) (v := ?_) rfl (by kernel_rfl) (by kernel_rfl) (by kernel_rfl) (fun _ _ _ h => h) (Or.inl ⟨by kernel_rfl, ?_⟩) hS0 ?_
      rotate_left
      · intro w hSw
        try dsimp only at hSw
        go_simp
        try (with_reducible rfl)
      try simp only [Act.put, List.setIfInBounds_toArray, List.set_cons_zero, List.set_cons_succ]
      refine wpAnyH_take (i := 4) (v := ?_) rfl (by kernel_rfl) (by kernel_rfl) (by kernel_rfl) (fun _ _ _ h => h) (Or.inl ⟨by kernel_rfl, ?_⟩) hS0 ?_
      rotate_left
      · intro w hSw
        try dsimp only at hSw
        go_simp
        try (with_reducible rfl)
      try simp only [Act.put, List.setIfInBounds_toArray, List.set_cons_zero, List.set_cons_succ]
      refine wpAnyH_take (i := 5) (v := ?_) rfl (by kernel_rfl) (by kernel_rfl) (by kernel_rfl) (fun _ _ _ h => h) (Or.inl ⟨by kernel_rfl, ?_⟩) hS0 ?_
      rotate_left
      · intro w hSw
        try dsimp only at hSw
        go_simp
        try (with_reducible rfl)
      try simp only [Act.put, List.setIfInBounds_toArray, List.set_cons_zero, List.set_cons_succ]
      refine wpAnyH_take (i := 6) (v := ?_) rfl (by kernel_rfl) (by kernel_rfl) (by kernel_rfl) (fun _ _ _ h => h) (Or.inl ⟨by kernel_rfl, ?_⟩) hS0 ?_
      rotate_left
      · intro w hSw
        try dsimp only at hSw
        go_simp
        try (with_reducible rfl)
      try simp only [Act.put, List.setIfInBounds_toArray, List.set_cons_zero, List.set_cons_succ]
      refine wpAnyH_ready (rs := [7]) (by kernel_rfl) (by simp) ?_
      refine AllReadyH.cons rfl (fun K hK => ?_) AllReadyH.nil
      go_simp
      have c1 := cell_of_row _ _ 1 _ _ _ HBX7.out
      simp only [List.getElem?_toArray, List.getElem?_cons_zero, List.getElem?_cons_succ] at c1
      refine hK.out _ _ (And.intro HO7.out.blk.k2 c1) (fun hS1 => ?_)
      clear hK K
      try simp only [Act.put, List.setIfInBounds_toArray, List.set_cons_zero, List.set_cons_succ]
      refine wpAnyH_done (by kernel_rfl) ?_ _
      try simp only [Act.put, List.setIfInBounds_toArray, List.set_cons_zero, List.set_cons_succ, List.getElem_toArray, List.getElem_cons_succ, List.getElem_cons_zero]
      clear hS0 hS1
      go_wp2_with fail
      have x0 := HO7.out.blk.on tn htn
      have x1 := HO7.out.blk.at' tn htn
      have fz := HO7.out.blk.fz
      have hi8 : (tn : Int) < 8 := by omega
      have hi0 : (0 : Int) ≤ (tn : Int) := by omega
      refine wp_region_held_drew (S := fun w' => w'.cell? ⟨w.heap.size, 1, none⟩ = some (.int .i64 cl)) (by kernel_rfl) c1 (fun hS0 => ?_)
      refine wpAnyH_take (i := 0) (v := ?_) rfl (by kernel_rfl) (by kernel_rfl) (by kernel_rfl) (fun _ _ _ h => h) (Or.inl ⟨by kernel_rfl, ?_⟩) hS0 ?_
      rotate_left
      · intro w hSw
        try dsimp only at hSw
        go_simp
        try (with_reducible rfl)
      try simp only [Act.put, List.setIfInBounds_toArray, List.set_cons_zero, List.set_cons_succ]
      refine wpAnyH_take (i := 1) (v := ?_) rfl (by kernel_rfl) (by kernel_rfl) (by kernel_rfl) (fun _ _ _ h => h) (Or.inl ⟨by kernel_rfl, ?_⟩) hS0 ?_
      rotate_left
      · intro w hSw
        try dsimp only at hSw
        go_simp
        try (with_reducible rfl)
      try simp only [Act.put, List.setIfInBounds_toArray, List.set_cons_zero, List.set_cons_succ]
      refine wpAnyH_take (i := 2) (v := ?_) rfl (by kernel_rfl) (by kernel_rfl) (by kernel_rfl) (fun _ _ _ h => h) (Or.inl ⟨by kernel_rfl, ?_⟩) hS0 ?_
      rotate_left
      · intro w hSw
        try dsimp only at hSw
        go_simp
        try (with_reducible rfl)
      try simp only [Act.put, List.setIfInBounds_toArray, List.set_cons_zero, List.set_cons_succ]
      refine wpAnyH_take (i := 3) (v := ?_) rfl (by kernel_rfl) (by kernel_rfl) (by kernel_rfl) (fun _ _ _ h => h) (Or.inl ⟨by kernel_rfl, ?_⟩) hS0 ?_
      rotate_left
      · intro w hSw
        try dsimp only at hSw
        go_simp
        try (with_reducible rfl)
      try simp only [Act.put, List.setIfInBounds_toArray, List.set_cons_zero, List.set_cons_succ]
      refine wpAnyH_take (i := 4) (v := ?_) rfl (by kernel_rfl) (by kernel_rfl) (by kernel_rfl) (fun _ _ _ h => h) (Or.inl ⟨by kernel_rfl, ?_⟩) hS0 ?_
      rotate_left
      · intro w hSw
        try dsimp only at hSw
        go_simp
        try (with_reducible rfl)
      try simp only [Act.put, List.setIfInBounds_toArray, List.set_cons_zero, List.set_cons_succ]
      refine wpAnyH_take (i := 5) (v := ?_) rfl (by kernel_rfl) (by kernel_rfl) (by kernel_rfl) (fun _ _ _ h => h) (Or.inl ⟨by kernel_rfl, ?_⟩) hS0 ?_
      rotate_left
      · intro w hSw
        try dsimp only at hSw
        go_simp
        try (with_reducible rfl)
      try simp only [Act.put, List.setIfInBounds_toArray, List.set_cons_zero, List.set_cons_succ]
      refine wpAnyH_take (i := 6) (v := ?_) rfl (by kernel_rfl) (by kernel_rfl) (by kernel_rfl) (fun _ _ _ h => h) (Or.inl ⟨by kernel_rfl, ?_⟩) hS0 ?_
      rotate_left
      · intro w hSw
        try dsimp only at hSw
        go_simp
        try (with_reducible rfl)
      try simp only [Act.put, List.setIfInBounds_toArray, List.set_cons_zero, List.set_cons_succ]
      refine wpAnyH_take (i := 7) (v := ?_) rfl (by kernel_rfl) (by kernel_rfl) (by kernel_rfl) (fun _ _ _ h => h) (Or.inl ⟨by kernel_rfl, ?_⟩) hS0 ?_
      rotate_left
      · intro w hSw
        try dsimp only at hSw
        go_simp
        try (with_reducible rfl)
      try simp only [Act.put, List.setIfInBounds_toArray, List.set_cons_zero, List.set_cons_succ]
      refine wpAnyH_ready (rs := [8]) (by kernel_rfl) (by simp) ?_
      refine AllReadyH.cons rfl (fun K hK => ?_) AllReadyH.nil
      go_simp
      have c2 := (cellE (w := w7) (o := 1) (st2_other w7 h (3 + tn * 2) (.bool true) (.int .i64 cl) w.heap.size hhw)).trans c1
      unfold st2 at HDN2 c2
      refine hK.out _ _ c2 (fun hS1 => ?_)
      clear hK K
      try simp only [Act.put, List.setIfInBounds_toArray, List.set_cons_zero, List.set_cons_succ]
      refine wpAnyH_done (by kernel_rfl) ?_ _
      try simp only [Act.put, List.setIfInBounds_toArray, List.set_cons_zero, List.set_cons_succ, List.getElem_toArray, List.getElem_cons_succ, List.getElem_cons_zero]
      clear hS0 hS1 x0 x1 fz
      go_wp2_with fail
      go_ret
      rw [begR_ok, Int.toNat_natCast]
      exact ⟨rfl, (HDN2.out.1.more (Nat.le_refl _) (fun k hk => hk) HDN2.out.1.lt), HDN2.out.2⟩
  | none =>
    have hcu : mkP l cl = c := by
      have h1 := HFU.out
      have h2 := HHC.out
      cases hg : getU s.u cl with
      | none => rw [hg] at h2; exact h2
      | some d => rw [hg] at h1; cases h1
    have HFR := Lib.hid (fresh_any l B h m R _ s.by' sz F cl w4 HFT.out.len (HO.out.up HU3D.out) HIN.out.1 HIN.out.2)
    rw [hcu] at HFR
    have hgd0 : CGood c N := by
      rw [← hcu]
      unfold mkP
      split <;> exact (CGood.new _ _).more (Nat.zero_le _)
    have HGD0 := Lib.hid hgd0
    have HAH0 := Lib.hid (fun (w5 : World) (g : Nat) (u5 : Up w4 w5) (hge : w4.heap.size ≤ g) (hc5 : CellIs w5 g g c (fun _ => .slice none 0 0)) => atHand_new (N := N) HO.out HC.out HU3D.out u5 HoF.out hge hc5 hgd0 HWF.out)
    have b1 := cell_of_row _ _ 1 _ _ _ HBD.out
    simp only [List.getElem?_toArray, List.getElem?_cons_zero, List.getElem?_cons_succ] at b1
    clear hcu hgd0
    unfold ptrV
    dsimp only
    go_wp2_with fail
    refine HFR.out.mono ?_
    rintro e w5 ⟨g, rfl, hge, hc5, hu5⟩
    have HAH := Lib.hid (HAH0.out w5 g hu5 hge hc5)
    have HBX5 := Lib.hid ((hu5.block w.heap.size (Array.getElem?_eq_some_iff.1 HBD.out).1).trans HBD.out)
    have HAB0 : Hid (∀ x, Ft g (fun _ => Value.slice none 0 0) x → x ≠ w.heap.size) := Lib.hid (fun x hx e => by
      have := (Array.getElem?_eq_some_iff.1 HBD.out).1
      rcases hx with rfl | ⟨i, hi, e2⟩
      · omega
      · simp [Value.ownBlock] at e2)
    have hms : setMS MS cl (fun _ => Value.slice none 0 0) cl = fun _ => Value.slice none 0 0 := by unfold setMS; rw [if_pos rfl]
    obtain ⟨MS1, hMS⟩ : ∃ x, setMS MS cl (fun _ => Value.slice none 0 0) = x := ⟨_, rfl⟩
    have HAB : Hid (∀ x, Ft g (MS1 cl) x → x ≠ w.heap.size) := Lib.hid (by rw [← hMS, hms]; exact HAB0.out)
    rw [hMS] at HAH
    clear hMS hms hge hc5 hu5 b1
    have b0 := cell_of_row _ _ 0 _ _ _ HBX5.out
    have b1 := cell_of_row _ _ 1 _ _ _ HBX5.out
    have b2 := cell_of_row _ _ 2 _ _ _ HBX5.out
    simp only [List.getElem?_toArray, List.getElem?_cons_zero, List.getElem?_cons_succ] at b0 b1 b2
    have HBG := Lib.hid (begin_any g g N c _ t k cl v w5 (HAH.out.cs.cell cl g c HAH.out.at' HAH.out.u).1 (HAH.out.cs.cell cl g c HAH.out.at' HAH.out.u).2 hN)
    rw [HE1.out, HE2.out] at HBG
    have HGC := Lib.hid ((HAH.out.cs.cell cl g c HAH.out.at' HAH.out.u).2.begin t k v)
    rw [HE2.out] at HGC
    have HNB := Lib.hid (show ∀ x, Ft g (MS1 cl) x → x ≠ w.heap.size from fun x hx e => HAB.out x hx e)
    go_wp2_with fail
    refine HBG.out.mono ?_
    rintro e w6 ⟨rfl, ms', hc6, hf6⟩
    by_cases her : er = 0
    rotate_left
    · have hst := begin_stay c t k v (by rw [HE1.out]; exact her)
      rw [HE2.out] at hst
      rw [hst] at hc6
      have HR := Lib.hid (HAH.out.fail hf6 hc6 HX.out HXL.out HB.out HSZ.out HG0.out)
      have hne : (er != 0) = true := by rw [bne_iff_ne]; exact her
      have HER := Lib.hid her
      clear her hst hc6 hf6 b0 b1 b2
      go_wp2_with fail
      go_ret
      rw [begR_err HER.out]
      exact ⟨rfl, HR.out⟩
    · obtain ⟨p0, p1⟩ := begin_in c t k v (by rw [HE1.out]; exact her)
      obtain ⟨tn, rfl⟩ : ∃ tn : Nat, t = tn := ⟨t.toNat, by omega⟩
      have htn : tn < 8 := by omega
      subst her
      rw [begR_ok] at HGD
      rw [Int.toNat_natCast] at HGD
      have hbx6 := (hf6.block w.heap.size (Array.getElem?_eq_some_iff.1 HBX5.out).1 (fun e => HNB.out g (.inl rfl) e.symm) (fun i hi e => HNB.out _ (.inr ⟨i, hi, e⟩) rfl)).trans HBX5.out
      have HBX6 := Lib.hid hbx6
      have HO6 := Lib.hid ((HAH.out.o4 hf6).up (Up.refl w6).drew)
      obtain ⟨w7, hrun, ho7, hg7⟩ := HO6.out.store (show sz < maxLen from by unfold maxLen; have := HSZ.out; omega) HWF.out g
      have HDN := Lib.hid (HAH.out.done (w5 := w6.drew) (w6 := w7) hf6 hc6 HGC.out HX.out HXL.out HB.out HSZ.out htn (Up.refl w6).drew hg7 ho7 HGD.out w7 (Up.refl w7))
      have HO7 := Lib.hid ho7
      have HDN2 := Lib.hid (And.intro (HDN.out.1.up (Up.refl _).drew) (Fr.same HDN.out.2 (Fr.ofUp (X := X) (Up.refl _).drew)))
      have hmw : w.heap.size ≠ m := fun e => by have := HO.out.map.isLt; omega
      have HBX7 := Lib.hid (show w7.heap[w.heap.size]? = _ from (hg7.block w.heap.size (Array.getElem?_eq_some_iff.1 hbx6).1 (fun e => hmw (by injection e))).trans hbx6)
      have hhw : w.heap.size ≠ h := fun e => by have := HO.out.blk.lt; omega
      clear hc6 hf6 ho7 hg7 p0 p1
      have c1 := cell_of_row _ _ 1 _ _ _ HBX6.out
      simp only [List.getElem?_toArray, List.getElem?_cons_zero, List.getElem?_cons_succ] at c1
      have hSS : w6.drew.cell? ⟨h, 2, none⟩ = some (.map (some m)) ∧ w6.drew.cell? ⟨w.heap.size, 1, none⟩ = some (.int .i64 cl) := ⟨HO6.out.blk.k2, c1⟩
      clear b0 b1 b2 c1
      go_wp2_with fail
      refine wp_region_held_drew (S := fun w' => w'.cell? ⟨h, 2, none⟩ = some (.map (some m)) ∧ w'.cell? ⟨w.heap.size, 1, none⟩ = some (.int .i64 cl)) (by kernel_rfl) hSS (fun hS0 => ?_)
      clear hSS
      refine wpAnyH_take (i := 0) (v := ?_) rfl (by kernel_rfl) (by kernel_rfl) (by kernel_rfl) (fun _ _ _ h => h) (Or.inl ⟨by kernel_rfl, ?_⟩) hS0 ?_
      rotate_left
      · intro w hSw
        try dsimp only at hSw
        go_simp
        try (with_reducible rfl)
      try simp only [Act.put, List.setIfInBounds_toArray, List.set_cons_zero, List.set_cons_succ]
      refine wpAnyH_take (i := 1) (v := ?_) rfl (by kernel_rfl) (by kernel_rfl) (by kernel_rfl) (fun _ _ _ h => h) (Or.inl ⟨by kernel_rfl, ?_⟩) hS0 ?_
      rotate_left
      · intro w hSw
        try dsimp only at hSw
        go_simp
        try (with_reducible rfl)
      try simp only [Act.put, List.setIfInBounds_toArray, List.set_cons_zero, List.set_cons_succ]
      refine wpAnyH_take (i := 2) (v := ?_) rfl (by kernel_rfl) (by kernel_rfl) (by kernel_rfl) (fun _ _ _ h => h) (Or.inl ⟨by kernel_rfl, ?_⟩) hS0 ?_
      rotate_left
      · intro w hSw
        try dsimp only at hSw
        go_simp
        try (with_reducible rfl)
      try simp only [Act.put, List.setIfInBounds_toArray, List.set_cons_zero, List.set_cons_succ]
      refine wpAnyH_take (i := 3) (v := ?_) rfl (by kernel_rfl) (by kernel_rfl) (by kernel_rfl) (fun _ _ _ h => h) (Or.inl ⟨by kernel_rfl, ?_⟩) hS0 ?_
      rotate_left
      · intro w hSw
        try dsimp only at hSw
        go_simp
        try (with_reducible rfl)
      try simp only [Act.put, List.setIfInBounds_toArray, List.set_cons_zero, List.set_cons_succ]
      refine wpAnyH_take (i := 4) (v := ?_) rfl (by kernel_rfl) (by kernel_rfl) (by kernel_rfl) (fun _ _ _ h => h) (Or.inl ⟨by kernel_rfl, ?_⟩) hS0 ?_
      rotate_left
      · intro w hSw
        try dsimp only at hSw
        go_simp
        try (with_reducible rfl)
      try simp only [Act.put, List.setIfInBounds_toArray, List.set_cons_zero, List.set_cons_succ]
      refine wpAnyH_take (i := 5) (v := ?_) rfl (by kernel_rfl) (by kernel_rfl) (by kernel_rfl) (fun _ _ _ h => h) (Or.inl ⟨by kernel_rfl, ?_⟩) hS0 ?_
      rotate_left
      · intro w hSw
        try dsimp only at hSw
        go_simp
        try (with_reducible rfl)
      try simp only [Act.put, List.setIfInBounds_toArray, List.set_cons_zero, List.set_cons_succ]
      refine wpAnyH_take (i := 6) (v := ?_) rfl (by kernel_rfl) (by kernel_rfl) (by kernel_rfl) (fun _ _ _ h => h) (Or.inl ⟨by kernel_rfl, ?_⟩) hS0 ?_
      rotate_left
      · intro w hSw
        try dsimp only at hSw
        go_simp
        try (with_reducible rfl)
      try simp only [Act.put, List.setIfInBounds_toArray, List.set_cons_zero, List.set_cons_succ]
      refine wpAnyH_ready (rs := [7]) (by kernel_rfl) (by simp) ?_
      refine AllReadyH.cons rfl (fun K hK => ?_) AllReadyH.nil
      go_simp
      have c1 := cell_of_row _ _ 1 _ _ _ HBX7.out
      simp only [List.getElem?_toArray, List.getElem?_cons_zero, List.getElem?_cons_succ] at c1
      refine hK.out _ _ (And.intro HO7.out.blk.k2 c1) (fun hS1 => ?_)
      clear hK K
      try simp only [Act.put, List.setIfInBounds_toArray, List.set_cons_zero, List.set_cons_succ]
      refine wpAnyH_done (by kernel_rfl) ?_ _
      try simp only [Act.put, List.setIfInBounds_toArray, List.set_cons_zero, List.set_cons_succ, List.getElem_toArray, List.getElem_cons_succ, List.getElem_cons_zero]
      clear hS0 hS1
      go_wp2_with fail
      have x0 := HO7.out.blk.on tn htn
      have x1 := HO7.out.blk.at' tn htn
      have fz := HO7.out.blk.fz
      have hi8 : (tn : Int) < 8 := by omega
      have hi0 : (0 : Int) ≤ (tn : Int) := by omega
      refine wp_region_held_drew (S := fun w' => w'.cell? ⟨w.heap.size, 1, none⟩ = some (.int .i64 cl)) (by kernel_rfl) c1 (fun hS0 => ?_)
      refine wpAnyH_take (i := 0) (v := ?_) rfl (by kernel_rfl) (by kernel_rfl) (by kernel_rfl) (fun _ _ _ h => h) (Or.inl ⟨by kernel_rfl, ?_⟩) hS0 ?_
      rotate_left
      · intro w hSw
        try dsimp only at hSw
        go_simp
        try (with_reducible rfl)
      try simp only [Act.put, List.setIfInBounds_toArray, List.set_cons_zero, List.set_cons_succ]
      refine wpAnyH_take (i := 1) (v := ?_) rfl (by kernel_rfl) (by kernel_rfl) (by kernel_rfl) (fun _ _ _ h => h) (Or.inl ⟨by kernel_rfl, ?_⟩) hS0 ?_
      rotate_left
      · intro w hSw
        try dsimp only at hSw
        go_simp
        try (with_reducible rfl)
      try simp only [Act.put, List.setIfInBounds_toArray, List.set_cons_zero, List.set_cons_succ]
      refine wpAnyH_take (i := 2) (v := ?_) rfl (by kernel_rfl) (by kernel_rfl) (by kernel_rfl) (fun _ _ _ h => h) (Or.inl ⟨by kernel_rfl, ?_⟩) hS0 ?_
      rotate_left
      · intro w hSw
        try dsimp only at hSw
        go_simp
        try (with_reducible rfl)
      try simp only [Act.put, List.setIfInBounds_toArray, List.set_cons_zero, List.set_cons_succ]
      refine wpAnyH_take (i := 3) (v := ?_) rfl (by kernel_rfl) (by kernel_rfl) (by kernel_rfl) (fun _ _ _ h => h) (Or.inl ⟨by kernel_rfl, ?_⟩) hS0 ?_
      rotate_left
      · intro w hSw
        try dsimp only at hSw
        go_simp
        try (with_reducible rfl)
      try simp only [Act.put, List.setIfInBounds_toArray, List.set_cons_zero, List.set_cons_succ]
      refine wpAnyH_take (i := 4) (v := ?_) rfl (by kernel_rfl) (by kernel_rfl) (by kernel_rfl) (fun _ _ _ h => h) (Or.inl ⟨by kernel_rfl, ?_⟩) hS0 ?_
      rotate_left
      · intro w hSw
        try dsimp only at hSw
        go_simp
        try (with_reducible rfl)
      try simp only [Act.put, List.setIfInBounds_toArray, List.set_cons_zero, List.set_cons_succ]
      refine wpAnyH_take (i := 5) (v := ?_) rfl (by kernel_rfl) (by kernel_rfl) (by kernel_rfl) (fun _ _ _ h => h) (Or.inl ⟨by kernel_rfl, ?_⟩) hS0 ?_
      rotate_left
      · intro w hSw
        try dsimp only at hSw
        go_simp
        try (with_reducible rfl)
      try simp only [Act.put, List.setIfInBounds_toArray, List.set_cons_zero, List.set_cons_succ]
      refine wpAnyH_take (i := 6) (v := ?_) rfl (by kernel_rfl) (by kernel_rfl) (by kernel_rfl) (fun _ _ _ h => h) (Or.inl ⟨by kernel_rfl, ?_⟩) hS0 ?_
      rotate_left
      · intro w hSw
        try dsimp only at hSw
        go_simp
        try (with_reducible rfl)
      try simp only [Act.put, List.setIfInBounds_toArray, List.set_cons_zero, List.set_cons_succ]
      refine wpAnyH_take (i := 7) (v := ?_) rfl (by kernel_rfl) (by kernel_rfl) (by kernel_rfl) (fun _ _ _ h => h) (Or.inl ⟨by kernel_rfl, ?_⟩) hS0 ?_
      rotate_left
      · intro w hSw
        try dsimp only at hSw
        go_simp
        try (with_reducible rfl)
      try simp only [Act.put, List.setIfInBounds_toArray, List.set_cons_zero, List.set_cons_succ]
      refine wpAnyH_ready (rs := [8]) (by kernel_rfl) (by simp) ?_
      refine AllReadyH.cons rfl (fun K hK => ?_) AllReadyH.nil
      go_simp
      have c2 := (cellE (w := w7) (o := 1) (st2_other w7 h (3 + tn * 2) (.bool true) (.int .i64 cl) w.heap.size hhw)).trans c1
      unfold st2 at HDN2 c2
      refine hK.out _ _ c2 (fun hS1 => ?_)
      clear hK K
      try simp only [Act.put, List.setIfInBounds_toArray, List.set_cons_zero, List.set_cons_succ]
      refine wpAnyH_done (by kernel_rfl) ?_ _
      try simp only [Act.put, List.setIfInBounds_toArray, List.set_cons_zero, List.set_cons_succ, List.getElem_toArray, List.getElem_cons_succ, List.getElem_cons_zero]
      clear hS0 hS1 x0 x1 fz
      go_wp2_with fail
      go_ret
      rw [begR_ok, Int.toNat_natCast]
      exact ⟨rfl, (HDN2.out.1.more (Nat.le_refl _) (fun k hk => hk) HDN2.out.1.lt), HDN2.out.2⟩

end Go.Proofs.Ytedkgamecdmjdaa
