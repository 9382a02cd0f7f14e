/-
  The document's bank: End.
-/
import Derived.Test.YtpapcheliohacaaDocM
import Derived.Test.YtpapcheliohacaaPlayP
import Derived.Deep.RegionHeld3
set_option linter.unusedVariables false
set_option linter.unusedSimpArgs false
namespace Go.Proofs.Ytpapcheliohacaa
open Go.RowKit

theorem DFrame.toFr {w w' : World} {g : Nat} {L1 L2 : Value} {X : Nat → Prop} (f : DFrame w w' g L1 L2) (hX : ∀ k, FtD (g, L1) k → X k) : Fr w w' X :=
  ⟨f.os, f.tape, f.output, f.size, fun k hk hn => f.block k hk (fun e => hn (hX k (.inl e))) (fun e => hn (hX k (.inr e)))⟩
theorem numOf_turn (ds : BDl) (j : Nat) (D : DS) : (docTurn ds j D).map numOf = ds.map numOf := by
  have := congrArg (List.map (fun n : Int => Value.int .i64 n)) (turn_keys ds j D)
  rw [List.map_map, List.map_map] at this
  exact this
theorem gset_at (gl : List (Nat × Value)) (j i : Nat) (p : Nat × Value) (hj : j < gl.length) : (gl.set j p).getD i g0 = if i = j then p else gl.getD i g0 := by
  rw [List.getD_eq_getElem?_getD, List.getD_eq_getElem?_getD, List.getElem?_set]
  by_cases e : i = j
  · subst e
    rw [if_pos rfl, if_pos rfl, if_pos hj]; rfl
  · rw [if_neg (fun h => e h.symm), if_neg e]
theorem dset_at (ds : BDl) (j i : Nat) (D : DS) (hj : j < ds.length) : ((docTurn ds j D).getD i d0).2 = if i = j then D else (ds.getD i d0).2 := by
  unfold docTurn
  rw [List.getD_eq_getElem?_getD, List.getElem?_set]
  by_cases e : i = j
  · subst e
    rw [if_pos rfl, if_pos rfl, if_pos hj]; rfl
  · rw [if_neg (fun h => e h.symm), if_neg e, ← List.getD_eq_getElem?_getD]
theorem ptrOf_set (gl : List (Nat × Value)) (j : Nat) (v : Value) : (gl.set j ((gl.getD j g0).1, v)).map ptrOf = gl.map ptrOf := by
  apply List.ext_getElem
  · simp
  · intro i h1 h2
    simp only [List.length_map, List.length_set] at h1 h2
    simp only [List.getElem_map, List.getElem_set]
    split
    · rename_i e
      subst e
      rw [List.getD_eq_getElem?_getD, List.getElem?_eq_getElem h1]; rfl
    · rfl
theorem few_turn {ds : BDl} {K j : Nat} {D : DS} (h : Few ds K) (hj : j < ds.length) (h1 : D.L.length ≤ K + 1 ∧ 0 ≤ D.now ∧ D.now ≤ K + 1) : Few (docTurn ds j D) (K + 1) := by
  refine ⟨by unfold docTurn; rw [List.length_set]; have := h.1; omega, fun p hp => ?_⟩
  rcases turn_mem hj hp with rfl | hp
  · exact h1
  · have := h.2 p hp; omega
/-- A cell of the document's is turned by a call. -/
theorem doc_turn {w w' : World} {B r K' j : Nat} {Ls Nv Cv Lv' : Value} {ds : BDl} {gl : List (Nat × Value)} {X : Nat → Prop} {D' : DS} (HO : DocO w B r Ls Nv Cv ds gl) (HC : DCells w B r Nv Cv ds gl X) (hX : X r ∧ (∀ k, Nv.ownBlock = some k → X k) ∧ ∀ k, Cv.ownBlock = some k → X k) (hXL : ∀ k, X k → B ≤ k ∧ k < w.heap.size) (hB : B ≤ w.heap.size)
    (hj : j < ds.length) (hd : DocIs w' (gl.getD j g0).1 B D' Lv') (hf : DFrame w w' (gl.getD j g0).1 (gl.getD j g0).2 Lv') (hK : Few (docTurn ds j D') K') : DocM w' B r Ls (docTurn ds j D') K' (XG X w w') ∧ Fr w w' X := by
  have hfr : Fr w w' X := hf.toFr (fun k hk => (HC.ft j hj k hk).1)
  have hgl : j < gl.length := by rw [HC.len]; exact hj
  have hne : ∀ k, k < w.heap.size → ¬ FtD (gl.getD j g0) k → w'.heap[k]? = w.heap[k]? := fun k hk hn => hf.block k hk (fun e => hn (.inl e)) (fun e => hn (.inr e))
  have hlen : (docTurn ds j D').length = ds.length := by unfold docTurn; rw [List.length_set]
  refine ⟨⟨Nv, Cv, gl.set j ((gl.getD j g0).1, Lv'), ⟨?_, ?_, ?_, ?_, ?_, ?_, HO.n1, HO.n2, HO.n12, HO.ge⟩, ⟨by rw [List.length_set, hlen, HC.len], fun i hi => ?_, fun i hi k hk => ?_, fun i i' hi hi' hii k hk hk' => ?_⟩, ⟨.inl hX.1, fun k e => .inl (hX.2.1 k e), fun k e => .inl (hX.2.2 k e)⟩, XG.ge hXL hfr.size hB, hK⟩, hfr⟩
  · exact (cellE (hne r HO.lt (fun h => (HC.ft j hj r h).2.1 rfl))).trans HO.k0
  · exact (cellE (hne r HO.lt (fun h => (HC.ft j hj r h).2.1 rfl))).trans HO.k1
  · exact (cellE (hne r HO.lt (fun h => (HC.ft j hj r h).2.1 rfl))).trans HO.k2
  · exact fun i => (frozenE (hne r HO.lt (fun h => (HC.ft j hj r h).2.1 rfl))).trans (HO.fz i)
  · rw [numOf_turn, hlen]
    exact own_same HO.own1 fun k e => hne k (HO.own1.lt k e).2 (fun h => (HC.ft j hj k h).2.2.1 e)
  · rw [ptrOf_set, List.length_set]
    exact own_same HO.own2 fun k e => hne k (HO.own2.lt k e).2 (fun h => (HC.ft j hj k h).2.2.2 e)
  · rw [hlen] at hi
    rw [gset_at _ _ _ _ hgl, dset_at _ _ _ _ hj]
    by_cases e : i = j
    · rw [if_pos e, if_pos e]; exact hd
    · rw [if_neg e, if_neg e]
      have hb : ∀ k, FtD (gl.getD i g0) k → w'.heap[k]? = w.heap[k]? := fun k hk => hne k ((HC.cell i hi).ft_lt hk).2 (fun h => HC.two i j hi hj e k hk h)
      exact (HC.cell i hi).keep (hb _ (.inl rfl)) (fun k e2 => hb k (.inr e2))
  · rw [hlen] at hi
    rw [gset_at _ _ _ _ hgl] at hk
    by_cases e : i = j
    · rw [if_pos e] at hk
      have hold : FtD (gl.getD j g0) k → XG X w w' k ∧ k ≠ r ∧ Nv.ownBlock ≠ some k ∧ Cv.ownBlock ≠ some k := fun h => ⟨.inl (HC.ft j hj k h).1, (HC.ft j hj k h).2⟩
      rcases hk with hk | hk
      · exact hold (.inl hk)
      · dsimp only at hk
        rcases hf.ob with h | h
        · exact hold (.inr (by rw [← h]; exact hk))
        · have h1 := h k hk
          have h2 := (hd.own.lt k hk).2
          exact ⟨.inr ⟨h1, h2⟩, by have := HO.lt; omega, fun e => by have := (HO.own1.lt k e).2; omega, fun e => by have := (HO.own2.lt k e).2; omega⟩
    · rw [if_neg e] at hk
      exact ⟨.inl (HC.ft i hi k hk).1, (HC.ft i hi k hk).2⟩
  · rw [hlen] at hi hi'
    have key : ∀ a, a < ds.length → a ≠ j → FtD (gl.getD a g0) k → ¬ FtD ((gl.getD j g0).1, Lv') k := fun a ha hne2 h1 h2 => by
      have hn := HC.two a j ha hj hne2 k h1
      rcases h2 with h2 | h2
      · exact hn (.inl h2)
      · dsimp only at h2
        rcases hf.ob with h | h
        · exact hn (.inr (by rw [← h]; exact h2))
        · have h3 := h k h2
          have h4 := ((HC.cell a ha).ft_lt h1).2
          omega
    rw [gset_at _ _ _ _ hgl] at hk hk'
    by_cases e : i = j
    · rw [if_pos e] at hk
      rw [if_neg (fun e2 => hii (by rw [e, e2]))] at hk'
      exact key i' hi' (fun e2 => hii (by rw [e, e2])) hk' hk
    · rw [if_neg e] at hk
      by_cases e' : i' = j
      · rw [if_pos e'] at hk'
        exact key i hi e hk hk'
      · rw [if_neg e'] at hk'
        exact HC.two i i' hi hi' hii k hk hk'

set_option maxRecDepth 10000 in
set_option maxHeartbeats 4000000 in
theorem rendB_any (B r K : Nat) (Ls : Value) (ds : BDl) (X : Nat → Prop) (t d : Int) (w : World) (H : DocM w B r Ls ds K X) (hK : K ≤ 900) :
    Calls Try.prog 21 #[.pointer (some ⟨r, 0, none⟩), .int .i64 t, .int .i64 d] w fun e w' => e = .returned (.tuple #[.int .i64 (docEnd ds t d).1, .int .i64 (docEnd ds t d).2.1]) ∧ DocM w' B r Ls (docEnd ds t d).2.2 (K + 1) (XG X w w') ∧ Fr w w' X := by
  have HM := Lib.hid H
  obtain ⟨Nv, Cv, gl, h1, h2, h3, h4, h5⟩ := H
  have HBU := Lib.hid (rbusyB_any B r K Ls Nv Cv ds gl X t w h1 h2 h5 (by omega))
  have HB := Lib.hid (show B ≤ w.heap.size from by have := h4 _ h3.1; omega)
  obtain ⟨z, hz⟩ : ∃ z, busyZ ds t = z := ⟨_, rfl⟩
  rw [hz] at HBU
  by_cases hzn : z < 0
  · have e0 : docEnd ds t d = (0, 7, ds) := by unfold docEnd; rw [hz, if_pos hzn]
    rw [e0]
    have HKP := Lib.hid (HM.out.more (Nat.le_succ K) (X' := XG X w w) (fun k hk => .inl hk) (XG.ge HM.out.lt (Nat.le_refl _) HB.out))
    clear e0 h1 h2 h3 h4 h5 hz
    go_enter Try.func21, Try.ntmps21
    go_wp2_with fail
    refine HBU.out.mono ?_
    rintro e w2 ⟨rfl, rfl⟩
    go_wp2_with fail
    go_ret2
    exact ⟨rfl, HKP.out, Fr.ofUp (Up.refl _)⟩
  · have e0 : docEnd ds t d = (((ds.getD (placeZ ds z 0).toNat d0).2.endA t d).1, ((ds.getD (placeZ ds z 0).toNat d0).2.endA t d).2.1, docTurn ds (placeZ ds z 0).toNat ((ds.getD (placeZ ds z 0).toNat d0).2.endA t d).2.2) := by
      unfold docEnd; rw [hz, if_neg hzn]
    rw [e0]
    have hex : ∃ j, j < ds.length ∧ placeZ ds z 0 = (j : Int) := by
      rcases placeZ_cases z ds 0 with ⟨_, f2⟩ | ⟨j, f1, f2, _⟩
      · exfalso
        have hb : ∀ (ds' : BDl), (∀ p ∈ ds', p.1 ≠ z) → busyZ ds' t = z → False := fun ds' => by
          induction ds' with
          | nil => intro _ h; unfold busyZ at h; omega
          | cons p r ih =>
            intro hp h
            unfold busyZ at h
            split at h
            · exact hp p (by simp) h
            · exact ih (fun q hq => hp q (by simp [hq])) h
        exact hb ds f2 hz
      · exact ⟨j, f1, by rw [f2, Nat.zero_add]⟩
    obtain ⟨j, hj, hpj⟩ := hex
    rw [hpj, Int.toNat_natCast]
    have hji : (j : Int) < ds.length := by omega
    have hj0 : (0 : Int) ≤ j := by omega
    obtain ⟨A2, c2, hcv, hrow2, _⟩ := own_row (f := fun k => .pointer (some ⟨(gl.getD k g0).1, 0, none⟩)) h1.own2 (fun k hk => ptr_at hk)
    rw [h2.len] at hcv hrow2
    obtain ⟨b2, off2, hA2, x2⟩ := hrow2 j hj
    dsimp only at x2
    have HPL : Hid (∀ W, Up w W → Calls Try.prog 42 #[.pointer (some ⟨r, 0, none⟩), .int .i64 z] W fun e w' => e = .returned (.int .i64 (j : Int)) ∧ w' = W) := Lib.hid (fun W u => by
      have := place_any B r Ls Nv Cv ds gl z W (h1.keep (u.block r h1.lt) (fun k e => u.block k (h1.own1.lt k e).2) (fun k e => u.block k (h1.own2.lt k e).2)) (by have := h5.1; omega)
      rw [hpj] at this
      exact this)
    have k2 := h1.k2
    rw [hcv, hA2] at k2
    have hU : Up w w.drew := (Up.refl w).drew
    have h1d := h1.keep (hU.block r h1.lt) (fun k e => hU.block k (h1.own1.lt k e).2) (fun k e => hU.block k (h1.own2.lt k e).2)
    have h2d := h2.keep (fun i hi k hk => hU.block k ((h2.cell i hi).ft_lt hk).2)
    have hkey := getD_mem hj
    have HEN := Lib.hid (rend_any (gl.getD j g0).1 B (ds.getD j d0).2 (gl.getD j g0).2 t d w.drew (h2d.cell j hj) (by have := (h5.2 _ hkey).1; omega) (by have := (h5.2 _ hkey).2; omega))
    have hfew := DS.endA_few (ds.getD j d0).2 t d
    have HFW := Lib.hid (few_turn (D := ((ds.getD j d0).2.endA t d).2.2) h5 hj (by have := h5.2 _ hkey; omega))
    have HTN := Lib.hid (fun w' Lv' hd hf => doc_turn (w' := w') (Lv' := Lv') h1d h2d h3 h4 HB.out hj hd hf HFW.out)
    have HS2 := Lib.hid (show ∀ k, FtD (gl.getD j g0) k → k ≠ r ∧ k ≠ b2 from fun k hk => ⟨(h2.ft j hj k hk).2.1, fun e => (h2.ft j hj k hk).2.2.2 (by rw [hcv, hA2, e]; rfl)⟩)
    have HBL := Lib.hid (And.intro h1.lt (cell_lt x2))
    generalize (ds.getD j d0).2 = D at *
    generalize hgj : gl.getD j g0 = p at *
    obtain ⟨g, lv⟩ := p
    dsimp only at x2 HEN HTN
    generalize hev : (D.endA t d).1 = ev at *
    generalize her : (D.endA t d).2.1 = er at *
    generalize hDD : (D.endA t d).2.2 = D' at *
    have hSS : w.drew.cell? ⟨r, 2, none⟩ = some (.slice (some ⟨b2, off2, none⟩) ds.length c2) ∧ w.drew.cell? ⟨b2, off2 + j, none⟩ = some (.pointer (some ⟨g, 0, none⟩)) := ⟨k2, x2⟩
    have HSS := Lib.hid hSS
    clear h1 h2 h3 h4 h5 h1d h2d hz e0 hpj hrow2 hcv hA2 hU hkey hfew hgj hev her hDD k2 x2
    go_enter Try.func21, Try.ntmps21
    go_wp2_with fail
    refine HBU.out.mono ?_
    rintro e w2 ⟨rfl, rfl⟩
    go_wp2_with fail
    refine wp_region_held_drew (S := fun w' => w'.cell? ⟨r, 2, none⟩ = some (.slice (some ⟨b2, off2, none⟩) ds.length c2) ∧ w'.cell? ⟨b2, off2 + j, none⟩ = some (.pointer (some ⟨g, 0, none⟩))) (by kernel_rfl) hSS (fun hS0 => ?_)
    clear hSS
    refine wpAnyH_take (i := 0) (v := ?_) rfl (by kernel_rfl) (by kernel_rfl) (by kernel_rfl) (fun _ _ _ h => h) (Or.inl ⟨by kernel_rfl, ?_⟩) hS0 ?_
    rotate_left
    · intro w hSw
      try dsimp only at hSw
      go_simp
      try (with_reducible rfl)
    try simp only [Act.put, List.setIfInBounds_toArray, List.set_cons_zero, List.set_cons_succ]
    refine wpAnyH_take (i := 1) (v := ?_) rfl (by kernel_rfl) (by kernel_rfl) (by kernel_rfl) (fun _ _ _ h => h) (Or.inl ⟨by kernel_rfl, ?_⟩) hS0 ?_
    rotate_left
    · intro w hSw
      try dsimp only at hSw
      go_simp
      try (with_reducible rfl)
    try simp only [Act.put, List.setIfInBounds_toArray, List.set_cons_zero, List.set_cons_succ]
    refine wpAnyH_take (i := 2) (v := ?_) rfl (by kernel_rfl) (by kernel_rfl) (by kernel_rfl) (fun _ _ _ h => h) (Or.inl ⟨by kernel_rfl, ?_⟩) hS0 ?_
    rotate_left
    · intro w hSw
      try dsimp only at hSw
      go_simp
      try (with_reducible rfl)
    try simp only [Act.put, List.setIfInBounds_toArray, List.set_cons_zero, List.set_cons_succ]
    refine wpAnyH_take (i := 3) (v := ?_) rfl (by kernel_rfl) (by kernel_rfl) (by kernel_rfl) (fun _ _ _ h => h) (Or.inl ⟨by kernel_rfl, ?_⟩) hS0 ?_
    rotate_left
    · intro w hSw
      try dsimp only at hSw
      go_simp
      try (with_reducible rfl)
    try simp only [Act.put, List.setIfInBounds_toArray, List.set_cons_zero, List.set_cons_succ]
    refine wpAnyH_take (i := 4) (v := ?_) rfl (by kernel_rfl) (by kernel_rfl) (by kernel_rfl) (fun _ _ _ h => h) (Or.inl ⟨by kernel_rfl, ?_⟩) hS0 ?_
    rotate_left
    · intro w hSw
      try dsimp only at hSw
      go_simp
      try (with_reducible rfl)
    try simp only [Act.put, List.setIfInBounds_toArray, List.set_cons_zero, List.set_cons_succ]
    refine wpAnyH_take (i := 5) (v := ?_) rfl (by kernel_rfl) (by kernel_rfl) (by kernel_rfl) (fun _ _ _ h => h) (Or.inl ⟨by kernel_rfl, ?_⟩) hS0 ?_
    rotate_left
    · intro w hSw
      try dsimp only at hSw
      go_simp
      try (with_reducible rfl)
    try simp only [Act.put, List.setIfInBounds_toArray, List.set_cons_zero, List.set_cons_succ]
    refine wpAnyH_take (i := 9) (v := ?_) rfl (by kernel_rfl) (by kernel_rfl) (by kernel_rfl) (fun _ _ _ h => h) (Or.inl ⟨by kernel_rfl, ?_⟩) hS0 ?_
    rotate_left
    · intro w hSw
      try dsimp only at hSw
      go_simp
      try (with_reducible rfl)
    try simp only [Act.put, List.setIfInBounds_toArray, List.set_cons_zero, List.set_cons_succ]
    refine wpAnyH_take (i := 10) (v := ?_) rfl (by kernel_rfl) (by kernel_rfl) (by kernel_rfl) (fun _ _ _ h => h) (Or.inl ⟨by kernel_rfl, ?_⟩) hS0 ?_
    rotate_left
    · intro w hSw
      try dsimp only at hSw
      go_simp
      try (with_reducible rfl)
    try simp only [Act.put, List.setIfInBounds_toArray, List.set_cons_zero, List.set_cons_succ]
    refine wpAnyH_ready (rs := [6]) (by kernel_rfl) (by simp) ?_
    refine AllReadyH.cons rfl (fun K hK => ?_) AllReadyH.nil
    go_simp
    refine (HPL.out _ (Up.refl w2).drew).mono ?_
    rintro e w3 ⟨rfl, rfl⟩
    refine hK.out _ _ hS0 (fun hS1 => ?_)
    clear hK K
    try simp only [Act.put, List.setIfInBounds_toArray, List.set_cons_zero, List.set_cons_succ]
    refine wpAnyH_take (i := 7) (v := ?_) rfl (by kernel_rfl) (by kernel_rfl) (by kernel_rfl) (fun _ _ _ h => h) (Or.inl ⟨by kernel_rfl, ?_⟩) hS1 ?_
    rotate_left
    · intro w hSw
      try dsimp only at hSw
      go_simp
      try (with_reducible rfl)
    try simp only [Act.put, List.setIfInBounds_toArray, List.set_cons_zero, List.set_cons_succ]
    refine wpAnyH_take (i := 8) (v := ?_) rfl (by kernel_rfl) (by kernel_rfl) (by kernel_rfl) (fun _ _ _ h => h) (Or.inl ⟨by kernel_rfl, ?_⟩) hS1 ?_
    rotate_left
    · intro w hSw
      try dsimp only at hSw
      go_simp
      try (with_reducible rfl)
    try simp only [Act.put, List.setIfInBounds_toArray, List.set_cons_zero, List.set_cons_succ]
    refine wpAnyH_ready (rs := [11]) (by kernel_rfl) (by simp) ?_
    refine AllReadyH.cons rfl (fun K hK => ?_) AllReadyH.nil
    go_simp
    refine HEN.out.mono ?_
    rintro e w4 ⟨rfl, Lv', hd, hf⟩
    have HT := Lib.hid (HTN.out w4 Lv' hd hf)
    have hbl : ∀ k, k < w2.heap.size → ¬ FtD (g, lv) k → w4.heap[k]? = w2.drew.heap[k]? := fun k hk hn => hf.block k hk (fun e => hn (.inl e)) (fun e => hn (.inr e))
    have hS4 := And.intro ((cellE (hbl r HBL.out.1 (fun h => (HS2.out r h).1 rfl))).trans HSS.out.1) ((cellE (hbl b2 HBL.out.2 (fun h => (HS2.out b2 h).2 rfl))).trans HSS.out.2)
    clear hd hf hbl
    refine hK.out _ _ hS4 (fun hS2 => ?_)
    clear hK K
    try simp only [Act.put, List.setIfInBounds_toArray, List.set_cons_zero, List.set_cons_succ]
    refine wpAnyH_take (i := 12) (v := ?_) rfl (by kernel_rfl) (by kernel_rfl) (by kernel_rfl) (fun _ _ _ h => h) (Or.inl ⟨by kernel_rfl, ?_⟩) hS2 ?_
    rotate_left
    · intro w hSw
      try dsimp only at hSw
      go_simp
      try (with_reducible rfl)
    try simp only [Act.put, List.setIfInBounds_toArray, List.set_cons_zero, List.set_cons_succ]
    refine wpAnyH_take (i := 13) (v := ?_) rfl (by kernel_rfl) (by kernel_rfl) (by kernel_rfl) (fun _ _ _ h => h) (Or.inl ⟨by kernel_rfl, ?_⟩) hS2 ?_
    rotate_left
    · intro w hSw
      try dsimp only at hSw
      go_simp
      try (with_reducible rfl)
    try simp only [Act.put, List.setIfInBounds_toArray, List.set_cons_zero, List.set_cons_succ]
    refine wpAnyH_take (i := 14) (v := ?_) rfl (by kernel_rfl) (by kernel_rfl) (by kernel_rfl) (fun _ _ _ h => h) (Or.inl ⟨by kernel_rfl, ?_⟩) hS2 ?_
    rotate_left
    · intro w hSw
      try dsimp only at hSw
      go_simp
      try (with_reducible rfl)
    try simp only [Act.put, List.setIfInBounds_toArray, List.set_cons_zero, List.set_cons_succ]
    refine wpAnyH_take (i := 15) (v := ?_) rfl (by kernel_rfl) (by kernel_rfl) (by kernel_rfl) (fun _ _ _ h => h) (Or.inl ⟨by kernel_rfl, ?_⟩) hS2 ?_
    rotate_left
    · intro w hSw
      try dsimp only at hSw
      go_simp
      try (with_reducible rfl)
    try simp only [Act.put, List.setIfInBounds_toArray, List.set_cons_zero, List.set_cons_succ]
    refine wpAnyH_done (by kernel_rfl) ?_ _
    try simp only [Act.put, List.setIfInBounds_toArray, List.set_cons_zero, List.set_cons_succ, List.getElem_toArray, List.getElem_cons_succ, List.getElem_cons_zero]
    go_wp2_with fail
    go_ret2
    exact ⟨rfl, HT.out.1, (Fr.ofUp (Up.refl _).drew).same HT.out.2⟩

end Go.Proofs.Ytpapcheliohacaa

/-
  The document's bank: a number, a cell laid behind the others.
-/
namespace Go.Proofs.Ytpapcheliohacaa
open Go.RowKit

def DX (X : Nat → Prop) (r : Nat) (Nv Cv : Value) : Prop := X r ∧ (∀ k, Nv.ownBlock = some k → X k) ∧ ∀ k, Cv.ownBlock = some k → X k
theorem doc_app1 {w W w1 : World} {B r g1 cap : Nat} {Ls Nv Cv : Value} {ds : BDl} {gl : List (Nat × Value)} {X : Nat → Prop} {p : Int × DS} (HO : DocO w B r Ls Nv Cv ds gl) (HC : DCells w B r Nv Cv ds gl X) (hX : DX X r Nv Cv) (u : Up w W)
    (hown : w1.ownsRow B 3 1 (.slice (some ⟨g1, 0, none⟩) (ds.length + 1) cap) (ds.length + 1) (ds.map numOf ++ [.int .i64 p.1])) (hg : W.grownBy w1 Nv.ownBlock) (hor : Nv.ownBlock = some g1 ∨ w.heap.size ≤ g1) (hlt : g1 < w1.heap.size) :
    (w1.cell? ⟨r, 1, none⟩ = some Nv ∧ w1.frozen? ⟨r, 1, none⟩ = false) ∧ DocO (w1.setCell ⟨r, 1, none⟩ (.slice (some ⟨g1, 0, none⟩) (ds.length + 1) cap)) B r Ls (.slice (some ⟨g1, 0, none⟩) (ds.length + 1) cap) Cv (ds ++ [p]) gl ∧
    DCells (w1.setCell ⟨r, 1, none⟩ (.slice (some ⟨g1, 0, none⟩) (ds.length + 1) cap)) B r (.slice (some ⟨g1, 0, none⟩) (ds.length + 1) cap) Cv ds gl (XG X w (w1.setCell ⟨r, 1, none⟩ (.slice (some ⟨g1, 0, none⟩) (ds.length + 1) cap))) ∧
    DX (XG X w (w1.setCell ⟨r, 1, none⟩ (.slice (some ⟨g1, 0, none⟩) (ds.length + 1) cap))) r (.slice (some ⟨g1, 0, none⟩) (ds.length + 1) cap) Cv ∧ Fr w (w1.setCell ⟨r, 1, none⟩ (.slice (some ⟨g1, 0, none⟩) (ds.length + 1) cap)) X := by
  obtain ⟨hX1, hX2, hX3⟩ := hX
  have hk : ∀ k, k < w.heap.size → Nv.ownBlock ≠ some k → w1.heap[k]? = w.heap[k]? := fun k h1 h2 => (hg.block k (Nat.lt_of_lt_of_le h1 u.size) (fun e => h2 e.symm)).trans (u.block k h1)
  have hr : w1.heap[r]? = w.heap[r]? := hk r HO.lt HO.n1
  have hgr : g1 ≠ r := by
    rcases hor with e | e
    · exact fun e2 => HO.n1 (by rw [← e2]; exact e)
    · have := HO.lt; omega
  have k1 : w1.cell? ⟨r, 1, none⟩ = some Nv := (cellE hr).trans HO.k1
  have hsz : w.heap.size ≤ w1.heap.size := Nat.le_trans u.size hg.size
  obtain ⟨v', hv'⟩ : ∃ v', Value.slice (some ⟨g1, 0, none⟩) (ds.length + 1) cap = v' := ⟨_, rfl⟩
  have hvb : ∀ k, v'.ownBlock = some k ↔ k = g1 := fun k => by rw [← hv']; simp [Value.ownBlock]; exact ⟨fun h => h.symm, fun h => h.symm⟩
  rw [hv'] at hown ⊢
  have hs2 : (w1.setCell ⟨r, 1, none⟩ v').heap.size = w1.heap.size := by simp
  have ho : ∀ j, j ≠ 1 → (w1.setCell ⟨r, 1, none⟩ v').cell? ⟨r, j, none⟩ = w.cell? ⟨r, j, none⟩ := fun j hj => (World.cell?_setCell_other _ _ _ _ (by simp <;> omega)).trans (cellE hr)
  have hk2 : ∀ k, k < w.heap.size → k ≠ r → Nv.ownBlock ≠ some k → (w1.setCell ⟨r, 1, none⟩ v').heap[k]? = w.heap[k]? := fun k h1 h2 h3 => (Below.heap_setCell w1 ⟨r, 1, none⟩ _ k h2).trans (hk k h1 h3)
  have hg1 : ∀ k, k = g1 → XG X w (w1.setCell ⟨r, 1, none⟩ v') k := fun k e => by
    rcases hor with e2 | e2
    · exact .inl (hX2 k (by rw [e]; exact e2))
    · exact .inr ⟨by omega, by rw [hs2]; omega⟩
  refine ⟨⟨k1, (frozenE hr).trans (HO.fz 1)⟩, ⟨(ho 0 (by decide)).trans HO.k0, World.cell?_setCell_same _ _ _ k1, (ho 2 (by decide)).trans HO.k2, fun j => ?_, ?_, ?_, fun e => hgr ((hvb r).1 e).symm, HO.n2, fun k e => ?_, HO.ge⟩, ⟨HC.len, fun j hj => ?_, fun j hj k hkk => ?_, HC.two⟩, ⟨.inl hX1, fun k e => hg1 k ((hvb k).1 e), fun k e => .inl (hX3 k e)⟩, ⟨hg.os.trans u.os, hg.tape.trans u.tape, hg.output.trans u.output, by rw [hs2]; exact hsz, fun k h1 h2 => hk2 k h1 (fun e => h2 (by rw [e]; exact hX1)) (fun e => h2 (hX2 k e))⟩⟩
  · have : (w1.setCell ⟨r, 1, none⟩ v').frozen? ⟨r, j, none⟩ = w1.frozen? ⟨r, j, none⟩ := by simp [go_sem]
    rw [this]
    exact (frozenE hr).trans (HO.fz j)
  · rw [List.length_append, List.map_append]
    refine own_same hown fun k e => Below.heap_setCell w1 ⟨r, 1, none⟩ _ k (show k ≠ r from ?_)
    rw [(hvb k).1 e]; exact hgr
  · exact own_same HO.own2 fun k e => hk2 k (HO.own2.lt k e).2 (fun e2 => HO.n2 (by rw [e, e2])) (fun e2 => HO.n12 k e2 e)
  · rw [(hvb k).1 e]
    rcases hor with e2 | e2
    · exact HO.n12 g1 e2
    · exact fun e3 => by have := (HO.own2.lt g1 e3).2; omega
  · have hb : ∀ k, FtD (gl.getD j g0) k → (w1.setCell ⟨r, 1, none⟩ v').heap[k]? = w.heap[k]? := fun k h => hk2 k ((HC.cell j hj).ft_lt h).2 (HC.ft j hj k h).2.1 (HC.ft j hj k h).2.2.1
    exact (HC.cell j hj).keep (hb _ (.inl rfl)) (fun k e => hb k (.inr e))
  · obtain ⟨f1, f2, f3, f4⟩ := HC.ft j hj k hkk
    refine ⟨.inl f1, f2, fun e => ?_, f4⟩
    have hkg := (hvb k).1 e
    rcases hor with e2 | e2
    · exact f3 (by rw [hkg]; exact e2)
    · have := ((HC.cell j hj).ft_lt hkk).2; omega
theorem doc_app2 {w W w1 : World} {B r g g1 cap : Nat} {Ls Nv Cv : Value} {ds : BDl} {gl : List (Nat × Value)} {X : Nat → Prop} {p : Int × DS} (HO : DocO w B r Ls Nv Cv (ds ++ [p]) gl) (HC : DCells w B r Nv Cv ds gl X) (hX : DX X r Nv Cv) (u : Up w W) (hge : w.heap.size ≤ g) (hd : DocIs W g B p.2 (.slice none 0 0))
    (hown : w1.ownsRow B 26 1 (.slice (some ⟨g1, 0, none⟩) (gl.length + 1) cap) (gl.length + 1) (gl.map ptrOf ++ [.pointer (some ⟨g, 0, none⟩)])) (hg : W.grownBy w1 Cv.ownBlock) (hor : Cv.ownBlock = some g1 ∨ W.heap.size ≤ g1) (hlt : g1 < w1.heap.size) :
    (w1.cell? ⟨r, 2, none⟩ = some Cv ∧ w1.frozen? ⟨r, 2, none⟩ = false) ∧ DocO (w1.setCell ⟨r, 2, none⟩ (.slice (some ⟨g1, 0, none⟩) (gl.length + 1) cap)) B r Ls Nv (.slice (some ⟨g1, 0, none⟩) (gl.length + 1) cap) (ds ++ [p]) (gl ++ [(g, .slice none 0 0)]) ∧
    DCells (w1.setCell ⟨r, 2, none⟩ (.slice (some ⟨g1, 0, none⟩) (gl.length + 1) cap)) B r Nv (.slice (some ⟨g1, 0, none⟩) (gl.length + 1) cap) (ds ++ [p]) (gl ++ [(g, .slice none 0 0)]) (XG X w (w1.setCell ⟨r, 2, none⟩ (.slice (some ⟨g1, 0, none⟩) (gl.length + 1) cap))) ∧
    DX (XG X w (w1.setCell ⟨r, 2, none⟩ (.slice (some ⟨g1, 0, none⟩) (gl.length + 1) cap))) r Nv (.slice (some ⟨g1, 0, none⟩) (gl.length + 1) cap) ∧ Fr w (w1.setCell ⟨r, 2, none⟩ (.slice (some ⟨g1, 0, none⟩) (gl.length + 1) cap)) X := by
  obtain ⟨hX1, hX2, hX3⟩ := hX
  have hk : ∀ k, k < w.heap.size → Cv.ownBlock ≠ some k → w1.heap[k]? = w.heap[k]? := fun k h1 h2 => (hg.block k (Nat.lt_of_lt_of_le h1 u.size) (fun e => h2 e.symm)).trans (u.block k h1)
  have hr : w1.heap[r]? = w.heap[r]? := hk r HO.lt HO.n2
  have hgW : g < W.heap.size := hd.lt
  have hgr : g1 ≠ r := by
    rcases hor with e | e
    · exact fun e2 => HO.n2 (by rw [← e2]; exact e)
    · have := HO.lt; have := u.size; omega
  have hgg : g1 ≠ g := by
    rcases hor with e | e
    · have := (HO.own2.lt g1 e).2; omega
    · omega
  have k2 : w1.cell? ⟨r, 2, none⟩ = some Cv := (cellE hr).trans HO.k2
  have hsz : w.heap.size ≤ w1.heap.size := Nat.le_trans u.size hg.size
  obtain ⟨v', hv'⟩ : ∃ v', Value.slice (some ⟨g1, 0, none⟩) (gl.length + 1) cap = v' := ⟨_, rfl⟩
  have hvb : ∀ k, v'.ownBlock = some k ↔ k = g1 := fun k => by rw [← hv']; simp [Value.ownBlock]; exact ⟨fun h => h.symm, fun h => h.symm⟩
  rw [hv'] at hown ⊢
  have hs2 : (w1.setCell ⟨r, 2, none⟩ v').heap.size = w1.heap.size := by simp
  have ho : ∀ j, j ≠ 2 → (w1.setCell ⟨r, 2, none⟩ v').cell? ⟨r, j, none⟩ = w.cell? ⟨r, j, none⟩ := fun j hj => (World.cell?_setCell_other _ _ _ _ (by simp <;> omega)).trans (cellE hr)
  have hk2 : ∀ k, k < w.heap.size → k ≠ r → Cv.ownBlock ≠ some k → (w1.setCell ⟨r, 2, none⟩ v').heap[k]? = w.heap[k]? := fun k h1 h2 h3 => (Below.heap_setCell w1 ⟨r, 2, none⟩ _ k h2).trans (hk k h1 h3)
  have hgn : (w1.setCell ⟨r, 2, none⟩ v').heap[g]? = W.heap[g]? := (Below.heap_setCell w1 ⟨r, 2, none⟩ _ g (show g ≠ r by have := HO.lt; omega)).trans (hg.block g hgW (fun e => by have := (HO.own2.lt g e.symm).2; omega))
  have hgx : XG X w (w1.setCell ⟨r, 2, none⟩ v') g := .inr ⟨hge, by rw [hs2]; exact Nat.lt_of_lt_of_le hgW hg.size⟩
  have hg1 : ∀ k, k = g1 → XG X w (w1.setCell ⟨r, 2, none⟩ v') k := fun k e => by
    rcases hor with e2 | e2
    · exact .inl (hX3 k (by rw [e]; exact e2))
    · have := u.size; exact .inr ⟨by omega, by rw [hs2]; omega⟩
  have hgl : ∀ j, j < ds.length → (gl ++ [(g, Value.slice none 0 0)]).getD j g0 = gl.getD j g0 ∧ ((ds ++ [p]).getD j d0) = ds.getD j d0 := fun j hj => by
    rw [List.getD_eq_getElem?_getD, List.getD_eq_getElem?_getD, List.getD_eq_getElem?_getD, List.getD_eq_getElem?_getD, List.getElem?_append_left (by rw [HC.len]; exact hj), List.getElem?_append_left hj]
    exact ⟨rfl, rfl⟩
  have hgl2 : (gl ++ [(g, Value.slice none 0 0)]).getD ds.length g0 = (g, .slice none 0 0) ∧ ((ds ++ [p]).getD ds.length d0) = p := by
    rw [List.getD_eq_getElem?_getD, List.getD_eq_getElem?_getD, List.getElem?_append_right (by rw [HC.len]; exact Nat.le_refl _), List.getElem?_append_right (Nat.le_refl _), HC.len]
    simp
  have hft : ∀ k, FtD (g, Value.slice none 0 0) k → k = g := fun k h => by
    rcases h with h | h
    · exact h
    · simp [Value.ownBlock] at h
  refine ⟨⟨k2, (frozenE hr).trans (HO.fz 2)⟩, ⟨(ho 0 (by decide)).trans HO.k0, (ho 1 (by decide)).trans HO.k1, World.cell?_setCell_same _ _ _ k2, fun j => ?_, ?_, ?_, HO.n1, fun e => hgr ((hvb r).1 e).symm, fun k e e2 => ?_, HO.ge⟩, ⟨by simp [HC.len], fun j hj => ?_, fun j hj k hkk => ?_, fun i j hi hj hij k h1 h2 => ?_⟩, ⟨.inl hX1, fun k e => .inl (hX2 k e), fun k e => hg1 k ((hvb k).1 e)⟩, ⟨hg.os.trans u.os, hg.tape.trans u.tape, hg.output.trans u.output, by rw [hs2]; exact hsz, fun k h1 h2 => hk2 k h1 (fun e => h2 (by rw [e]; exact hX1)) (fun e => h2 (hX3 k e))⟩⟩
  · have : (w1.setCell ⟨r, 2, none⟩ v').frozen? ⟨r, j, none⟩ = w1.frozen? ⟨r, j, none⟩ := by simp [go_sem]
    rw [this]
    exact (frozenE hr).trans (HO.fz j)
  · exact own_same HO.own1 fun k e => hk2 k (HO.own1.lt k e).2 (fun e2 => HO.n1 (by rw [e, e2])) (fun e2 => HO.n12 k e e2)
  · rw [List.length_append, List.map_append]
    refine own_same hown fun k e => Below.heap_setCell w1 ⟨r, 2, none⟩ _ k (show k ≠ r from ?_)
    rw [(hvb k).1 e]; exact hgr
  · have hkg := (hvb k).1 e2
    rcases hor with e3 | e3
    · exact HO.n12 k e (by rw [hkg]; exact e3)
    · have := (HO.own1.lt k e).2; have := u.size; omega
  · by_cases hjl : j < ds.length
    · rw [(hgl j hjl).1, (hgl j hjl).2]
      have hb : ∀ k, FtD (gl.getD j g0) k → (w1.setCell ⟨r, 2, none⟩ v').heap[k]? = w.heap[k]? := fun k h => hk2 k ((HC.cell j hjl).ft_lt h).2 (HC.ft j hjl k h).2.1 (HC.ft j hjl k h).2.2.2
      exact (HC.cell j hjl).keep (hb _ (.inl rfl)) (fun k e => hb k (.inr e))
    · obtain rfl : j = ds.length := by simp at hj; omega
      rw [hgl2.1, hgl2.2]
      exact hd.keep hgn (fun k e => by simp [Value.ownBlock] at e)
  · by_cases hjl : j < ds.length
    · rw [(hgl j hjl).1] at hkk
      obtain ⟨f1, f2, f3, f4⟩ := HC.ft j hjl k hkk
      refine ⟨.inl f1, f2, f3, fun e => ?_⟩
      have hkg := (hvb k).1 e
      rcases hor with e2 | e2
      · exact f4 (by rw [hkg]; exact e2)
      · have := ((HC.cell j hjl).ft_lt hkk).2; have := u.size; omega
    · obtain rfl : j = ds.length := by simp at hj; omega
      rw [hgl2.1] at hkk
      have hkg := hft k hkk
      rw [hkg]
      exact ⟨hgx, by have := HO.lt; omega, fun e => by have := (HO.own1.lt g e).2; omega, fun e => hgg ((hvb g).1 e).symm⟩
  · have key : ∀ a, a < ds.length → FtD (gl.getD a g0) k → ¬ FtD (g, Value.slice none 0 0) k := fun a ha h1 h2 => by
      have := hft k h2
      have := ((HC.cell a ha).ft_lt h1).2
      omega
    by_cases hil : i < ds.length
    · rw [(hgl i hil).1] at h1
      by_cases hjl : j < ds.length
      · rw [(hgl j hjl).1] at h2
        exact HC.two i j hil hjl hij k h1 h2
      · obtain rfl : j = ds.length := by simp at hj; omega
        rw [hgl2.1] at h2
        exact key i hil h1 h2
    · obtain rfl : i = ds.length := by simp at hi; omega
      rw [hgl2.1] at h1
      have hjl : j < ds.length := by simp at hj; omega
      rw [(hgl j hjl).1] at h2
      exact key j hjl h2 h1
theorem docIs_new {W : World} {g B : Nat} {kind top : Int} {t : TypeId} (hb : W.heap[g]? = some (.cells #[.int .i64 kind, .int .i64 top, .int .i64 0, .int .i64 0, .slice none 0 0] t (0, 0))) (hB : B ≤ g) : DocIs W g B ⟨kind, top, 0, 0, []⟩ (.slice none 0 0) :=
  ⟨cell_of_row _ _ 0 _ _ _ hb, cell_of_row _ _ 1 _ _ _ hb, cell_of_row _ _ 2 _ _ _ hb, cell_of_row _ _ 3 _ _ _ hb, cell_of_row _ _ 4 _ _ _ hb, fun j => frozen_of_row _ _ j _ _ hb, ⟨rfl, .inl ⟨rfl, rfl⟩⟩, by simp [Value.ownBlock], hB⟩

end Go.Proofs.Ytpapcheliohacaa
