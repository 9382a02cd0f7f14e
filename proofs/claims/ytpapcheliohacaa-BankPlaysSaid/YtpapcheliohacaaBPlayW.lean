/-
  BankPlays: the walk.
-/
import Derived.Test.YtpapcheliohacaaBPlayP
import Derived.Test.YtpapcheliohacaaAlive09
import Derived.Test.YtpapcheliohacaaActW
set_option linter.unusedVariables false
set_option linter.unusedSimpArgs false
namespace Go.Proofs.Ytpapcheliohacaa
open Go.RowKit

theorem wf_in {n : Int} (h : In64 n) : Wf n := by unfold Wf; unfold In64 at h; simpa [Lit.wf, IntKind.min, IntKind.max, IntKind.signed, IntKind.bits] using h
theorem stripRow_few {w : World} {A : Option Addr} {l : List SD} (h : StripRow w A l) : True := trivial

set_option maxRecDepth 10000 in
set_option maxHeartbeats 4000000 in
theorem bankPlays_any (l : List SD) (A : Option Addr) (c : Nat) (ts : List A2) (A2' : Option Addr) (c2 : Nat) (w : World) (hll : l.length ≤ 9223372036854775807) (hlm : ts.length ≤ 9223372036854775807) (hs : StripRow w A l) (hr : A2Row w A2' ts) (hw : ∀ k, k < ts.length → A2W (ts.getD k a20)) :
    Calls Try.prog 6 #[.slice A l.length c, .slice A2' ts.length c2] w fun e w' => e = .returned (.bool true) ∧ Below w.heap.size w w' := by
  have HAL := Lib.hid alive09_any
  by_cases hl20 : l.length ≤ 20
  rotate_left
  · have z1 : ((20 : Int) < (l.length : Int)) = True := by simp; omega
    clear hs hr hw
    go_enter Try.func6, Try.ntmps6
    go_wp2_with fail
    refine (HAL.out _).mono ?_
    rintro e w1 ⟨rfl, hU⟩
    go_wp2_with fail
    go_ret
    exact ⟨rfl, hU⟩
  have z1 : ((20 : Int) < (l.length : Int)) = False := by simp; omega
  by_cases hl : ts.length ≤ 60
  rotate_left
  · have z2 : ((60 : Int) < (ts.length : Int)) = True := by simp; omega
    clear hs hr hw
    go_enter Try.func6, Try.ntmps6
    go_wp2_with fail
    refine (HAL.out _).mono ?_
    rintro e w1 ⟨rfl, hU⟩
    go_wp2_with fail
    go_ret
    exact ⟨rfl, hU⟩
  have z2 : ((60 : Int) < (ts.length : Int)) = False := by simp; omega
  have HS := Lib.hid hs
  have HR := Lib.hid hr
  have HWF := Lib.hid hw
  have HL := Lib.hid hl
  have HN := Lib.hid (newM_any l A c w (by omega) hs)
  by_cases he : (countP l).2 ≠ 0
  · have hne : ((countP l).2 != 0) = true := by rw [bne_iff_ne]; exact he
    have HN2 := Lib.hid (show Calls Try.prog 19 #[.slice A l.length c] w fun e w' => e = .returned (.tuple #[.pointer none, .int .i64 (countP l).2]) ∧ Up w w' from HN.out.mono fun e w' hp => by unfold NewM at hp; rw [if_pos he] at hp; exact hp)
    generalize (countP l).2 = er at *
    clear hs hr hw he HN
    go_enter Try.func6, Try.ntmps6
    go_wp2_with fail
    refine HN2.out.mono ?_
    rintro e w1 ⟨rfl, hu1⟩
    have HU1 := Lib.hid hu1
    clear hu1
    go_wp2_with fail
    refine (HAL.out _).mono ?_
    rintro e w2 ⟨rfl, hU⟩
    have HU2 := Lib.hid (HU1.out.trans hU)
    clear hU
    go_wp2_with fail
    go_ret
    exact ⟨rfl, HU2.out⟩
  have HN2 := Lib.hid (show Calls Try.prog 19 #[.slice A l.length c] w fun e w' => ∃ h X, e = .returned (.tuple #[.pointer (some ⟨h, 0, none⟩), .int .i64 0]) ∧ BankM w' w.heap.size h l bs0 0 X ∧ Up w w' from HN.out.mono fun e w' hp => by unfold NewM at hp; rw [if_neg he] at hp; exact hp)
  have HFT := Lib.hid (fit_of (by omega) (show (countP l).2 = 0 by omega)).1
  clear hs hr hw he HN hll hlm
  go_enter Try.func6, Try.ntmps6
  go_wp2_with fail
  refine HN2.out.mono ?_
  rintro e w1 ⟨h, X, rfl, hb, hu1⟩
  have HP0 := Lib.hid (play_new (A := A) (c := c) (t := 55) (Up.refl w) hu1 hb)
  clear hb hu1 HN2
  go_wp2_with fail
  generalize w1.alloc (.cells #[.slice A l.length c, .slice none 0 0, .slice none 0 0] 55) = w2 at *
  generalize w1.heap.size = r at *
  go_loopw [8] (fun x wr => ∃ (j : Nat) (s : BS) (ds : BDl), j ≤ ts.length ∧ x = .int .i64 j ∧ Hid (PlayB w wr h r l (.slice A l.length c) s ds (9 * j) j (fun _ => False) ∧ BSim s ds ∧ ∀ p ∈ ds, Wf p.1)) (fun x _ => ts.length - (intOf x).toNat)
  case atStart => exact ⟨0, bs0, [], by omega, rfl, Lib.hid ⟨HP0.out, bsim_start, fun p hp => (by cases hp)⟩⟩
  case round =>
    obtain ⟨j, s, ds, hj, rfl, HV⟩ := hrel
    by_cases hlt : j < ts.length
    · have hji : (j : Int) < ts.length := by omega
      have hj0 : (0 : Int) ≤ j := by omega
      have HLT := Lib.hid hlt
      have HJ := Lib.hid (show j ≤ 60 by have := HL.out; omega)
      have hj60 : (j : Int) ≤ 60 := by have := HJ.out; omega
      obtain ⟨b, off, rfl, x0, x1, x2, x3, x4, x5⟩ := HR.out.up HV.out.1.1 j hlt
      have HG := Lib.hid (HWF.out j hlt)
      generalize ts.getD j a20 = a at *
      obtain ⟨ae, at', an, ak, acl, av⟩ := a
      dsimp only at x0 x1 x2 x3 x4 x5
      have HG1 := Lib.hid (show In64 at' from HG.out.1)
      have HGC := Lib.hid (show Wf acl from wf_in HG.out.2.2.2.1)
      have HB0 := Lib.hid (heap_alloc_new wr (.cells #[.bool ae, .int .i64 at', .int .i64 an, .int .i64 ak, .int .i64 acl, .int .i64 av] 33))
      have HUA := Lib.hid ((Up.refl wr).alloc (.cells #[.bool ae, .int .i64 at', .int .i64 an, .int .i64 ak, .int .i64 acl, .int .i64 av] 33))
      have HT1 := Lib.hid ((HV.out.1.grow HUA.out).less (Z' := fun k => k = wr.heap.size) (fun k hk => .inr ⟨by omega, by simp; omega⟩))
      have HSM := Lib.hid HV.out.2
      generalize hz : wr.heap.size = z at *
      clear hlt hj HV HG
      go_upto_if 52 with fail
      generalize wr.alloc (.cells #[.bool ae, .int .i64 at', .int .i64 an, .int .i64 ak, .int .i64 acl, .int .i64 av] 33) = W1 at *
      clear x0 x1 x2 x3 x4 x5
      go_cut [] (fun wx => ∃ s' ds', Hid (PlayB w wx h r l (.slice A l.length c) s' ds' (9 * j + 9) (j + 1) (fun k => k = z) ∧ BSim s' ds' ∧ (∀ p ∈ ds', Wf p.1) ∧ wx.heap[z]? = some (.cells #[.bool ae, .int .i64 at', .int .i64 an, .int .i64 ak, .int .i64 acl, .int .i64 av] 33)))
      case first =>
        have y1 := cell_of_row _ _ 1 _ _ _ HB0.out
        have y2 := cell_of_row _ _ 2 _ _ _ HB0.out
        have y3 := cell_of_row _ _ 3 _ _ _ HB0.out
        have y4 := cell_of_row _ _ 4 _ _ _ HB0.out
        have y5 := cell_of_row _ _ 5 _ _ _ HB0.out
        simp only [List.getElem?_toArray, List.getElem?_cons_zero, List.getElem?_cons_succ] at y1 y2 y3 y4 y5
        cases ae
        · have hU1 : Up W1 W1.drew := (Up.refl W1).drew
          have HT2 := Lib.hid (HT1.out.up hU1)
          have HBG := Lib.hid (pbegin_play h r _ _ l _ s ds at' ak acl av w W1.drew _ HFT.out HG1.out HT2.out (by have := HJ.out; omega))
          obtain ⟨hs1, hs2⟩ := begin_simB HSM.out.1 l at' ak acl av
          rw [cnt_end HFT.out.all HFT.out.few] at hs1 hs2
          have HS1 := Lib.hid hs1
          have HS2 := Lib.hid hs2
          have HW2 := Lib.hid (docBegin_wf (l := l) at' ak acl av HGC.out HSM.out.2)
          have hSS : W1.drew.cell? ⟨z, 1, none⟩ = some (.int .i64 at') ∧ W1.drew.cell? ⟨z, 3, none⟩ = some (.int .i64 ak) ∧ W1.drew.cell? ⟨z, 4, none⟩ = some (.int .i64 acl) ∧ W1.drew.cell? ⟨z, 5, none⟩ = some (.int .i64 av) := ⟨y1, y3, y4, y5⟩
          have HSS := Lib.hid hSS
          have HSV := Lib.hid (fun (w' : World) (h1 : w'.heap[z]? = W1.drew.heap[z]?) => (show w'.cell? ⟨z, 1, none⟩ = some (.int .i64 at') ∧ w'.cell? ⟨z, 3, none⟩ = some (.int .i64 ak) ∧ w'.cell? ⟨z, 4, none⟩ = some (.int .i64 acl) ∧ w'.cell? ⟨z, 5, none⟩ = some (.int .i64 av) from ⟨(cellE h1).trans y1, (cellE h1).trans y3, (cellE h1).trans y4, (cellE h1).trans y5⟩))
          clear hs1 hs2 y1 y2 y3 y4 y5
          go_upto_region 16 with fail
          refine wp_region_held_drew (S := fun w' => w'.cell? ⟨z, 1, none⟩ = some (.int .i64 at') ∧ w'.cell? ⟨z, 3, none⟩ = some (.int .i64 ak) ∧ w'.cell? ⟨z, 4, none⟩ = some (.int .i64 acl) ∧ w'.cell? ⟨z, 5, none⟩ = some (.int .i64 av)) (by kernel_rfl) hSS (fun hS0 => ?_)
          clear hSS
          refine wpAnyH_take (i := 0) (v := ?_) rfl (by kernel_rfl) (by kernel_rfl) (by kernel_rfl) (fun _ _ _ h => h) (Or.inl ⟨by kernel_rfl, ?_⟩) hS0 ?_
          rotate_left
          · intro w hSw
            try dsimp only at hSw
            go_simp
            try (with_reducible rfl)
          try simp only [Act.put, List.setIfInBounds_toArray, List.set_cons_zero, List.set_cons_succ]
          refine wpAnyH_take (i := 1) (v := ?_) rfl (by kernel_rfl) (by kernel_rfl) (by kernel_rfl) (fun _ _ _ h => h) (Or.inl ⟨by kernel_rfl, ?_⟩) hS0 ?_
          rotate_left
          · intro w hSw
            try dsimp only at hSw
            go_simp
            try (with_reducible rfl)
          try simp only [Act.put, List.setIfInBounds_toArray, List.set_cons_zero, List.set_cons_succ]
          refine wpAnyH_take (i := 2) (v := ?_) rfl (by kernel_rfl) (by kernel_rfl) (by kernel_rfl) (fun _ _ _ h => h) (Or.inl ⟨by kernel_rfl, ?_⟩) hS0 ?_
          rotate_left
          · intro w hSw
            try dsimp only at hSw
            go_simp
            try (with_reducible rfl)
          try simp only [Act.put, List.setIfInBounds_toArray, List.set_cons_zero, List.set_cons_succ]
          refine wpAnyH_take (i := 3) (v := ?_) rfl (by kernel_rfl) (by kernel_rfl) (by kernel_rfl) (fun _ _ _ h => h) (Or.inl ⟨by kernel_rfl, ?_⟩) hS0 ?_
          rotate_left
          · intro w hSw
            try dsimp only at hSw
            go_simp
            try (with_reducible rfl)
          try simp only [Act.put, List.setIfInBounds_toArray, List.set_cons_zero, List.set_cons_succ]
          refine wpAnyH_take (i := 4) (v := ?_) rfl (by kernel_rfl) (by kernel_rfl) (by kernel_rfl) (fun _ _ _ h => h) (Or.inl ⟨by kernel_rfl, ?_⟩) hS0 ?_
          rotate_left
          · intro w hSw
            try dsimp only at hSw
            go_simp
            try (with_reducible rfl)
          try simp only [Act.put, List.setIfInBounds_toArray, List.set_cons_zero, List.set_cons_succ]
          refine wpAnyH_take (i := 6) (v := ?_) rfl (by kernel_rfl) (by kernel_rfl) (by kernel_rfl) (fun _ _ _ h => h) (Or.inl ⟨by kernel_rfl, ?_⟩) hS0 ?_
          rotate_left
          · intro w hSw
            try dsimp only at hSw
            go_simp
            try (with_reducible rfl)
          try simp only [Act.put, List.setIfInBounds_toArray, List.set_cons_zero, List.set_cons_succ]
          refine wpAnyH_take (i := 7) (v := ?_) rfl (by kernel_rfl) (by kernel_rfl) (by kernel_rfl) (fun _ _ _ h => h) (Or.inl ⟨by kernel_rfl, ?_⟩) hS0 ?_
          rotate_left
          · intro w hSw
            try dsimp only at hSw
            go_simp
            try (with_reducible rfl)
          try simp only [Act.put, List.setIfInBounds_toArray, List.set_cons_zero, List.set_cons_succ]
          refine wpAnyH_take (i := 8) (v := ?_) rfl (by kernel_rfl) (by kernel_rfl) (by kernel_rfl) (fun _ _ _ h => h) (Or.inl ⟨by kernel_rfl, ?_⟩) hS0 ?_
          rotate_left
          · intro w hSw
            try dsimp only at hSw
            go_simp
            try (with_reducible rfl)
          try simp only [Act.put, List.setIfInBounds_toArray, List.set_cons_zero, List.set_cons_succ]
          refine wpAnyH_take (i := 9) (v := ?_) rfl (by kernel_rfl) (by kernel_rfl) (by kernel_rfl) (fun _ _ _ h => h) (Or.inl ⟨by kernel_rfl, ?_⟩) hS0 ?_
          rotate_left
          · intro w hSw
            try dsimp only at hSw
            go_simp
            try (with_reducible rfl)
          try simp only [Act.put, List.setIfInBounds_toArray, List.set_cons_zero, List.set_cons_succ]
          refine wpAnyH_take (i := 10) (v := ?_) rfl (by kernel_rfl) (by kernel_rfl) (by kernel_rfl) (fun _ _ _ h => h) (Or.inl ⟨by kernel_rfl, ?_⟩) hS0 ?_
          rotate_left
          · intro w hSw
            try dsimp only at hSw
            go_simp
            try (with_reducible rfl)
          try simp only [Act.put, List.setIfInBounds_toArray, List.set_cons_zero, List.set_cons_succ]
          refine wpAnyH_ready (rs := [5]) (by kernel_rfl) (by simp) ?_
          refine AllReadyH.cons rfl (fun K hK => ?_) AllReadyH.nil
          go_simp
          refine HBG.out.mono ?_
          rintro e w3 ⟨rfl, hT3, hk3⟩
          have HDB := Lib.hid (dbegin_play h r _ _ l A c _ ds at' ak acl av w w3 _ HFT.out HS.out hT3 (by have := HJ.out; omega))
          have HB3 := Lib.hid (hk3 z rfl)
          clear hT3 hk3
          rw [HS1.out]
          refine hK.out _ _ (HSV.out _ HB3.out) (fun hS1 => ?_)
          clear hK K
          try simp only [Act.put, List.setIfInBounds_toArray, List.set_cons_zero, List.set_cons_succ]
          refine wpAnyH_ready (rs := [11]) (by kernel_rfl) (by simp) ?_
          refine AllReadyH.cons rfl (fun K hK => ?_) AllReadyH.nil
          go_simp
          refine HDB.out.mono ?_
          rintro e w4 ⟨rfl, hT4, hk4⟩
          have HT4 := Lib.hid (hT4.more (Nat.le_refl _) (Nat.le_refl _))
          have HB4 := Lib.hid ((hk4 z rfl).trans HB3.out)
          clear hT4 hk4
          refine hK.out _ _ (HSV.out _ HB4.out) (fun hS2 => ?_)
          clear hK K
          try simp only [Act.put, List.setIfInBounds_toArray, List.set_cons_zero, List.set_cons_succ]
          generalize hde : (docBegin l ds at' ak acl av).1 = er at *
          have hnn : (er != er) = false := by simp
          refine wpAnyH_take (i := 12) (v := ?_) rfl (by kernel_rfl) (by kernel_rfl) (by kernel_rfl) (fun _ _ _ h => h) (Or.inl ⟨by kernel_rfl, ?_⟩) hS2 ?_
          rotate_left
          · intro w hSw
            try dsimp only at hSw
            go_simp
            try (with_reducible rfl)
          try simp only [Act.put, List.setIfInBounds_toArray, List.set_cons_zero, List.set_cons_succ]
          refine wpAnyH_done (by kernel_rfl) ?_ _
          try simp only [Act.put, List.setIfInBounds_toArray, List.set_cons_zero, List.set_cons_succ, List.getElem_toArray, List.getElem_cons_succ, List.getElem_cons_zero]
          clear hS0 hS1 hS2
          go_wp2_with fail
          go_meet
          exact ⟨_, _, Lib.hid ⟨HT4.out, HS2.out, HW2.out, HB4.out.trans HB0.out⟩⟩
        · have HEN := Lib.hid (pend_play h r _ _ l _ s ds at' an w W1 _ (mkP l) HG1.out HT1.out (by have := HJ.out; omega))
          obtain ⟨hs1, hs2, hs3⟩ := end_simB HSM.out.1 (mkP l) at' an
          have HS1 := Lib.hid (And.intro hs1 hs2)
          have HS2 := Lib.hid hs3
          have HW2 := Lib.hid (docEnd_wf at' an HSM.out.2)
          clear hs1 hs2 hs3 y3 y4 y5
          go_wp2_with fail
          refine HEN.out.mono ?_
          rintro e w3 ⟨rfl, hT3, hk3⟩
          have HDE := Lib.hid (dend_play h r _ _ l _ _ ds at' an w w3 _ hT3 (by have := HJ.out; omega))
          have HB3 := Lib.hid ((hk3 z rfl).trans HB0.out)
          replace y1 := cell_of_row _ _ 1 _ _ _ HB3.out
          replace y2 := cell_of_row _ _ 2 _ _ _ HB3.out
          simp only [List.getElem?_toArray, List.getElem?_cons_zero, List.getElem?_cons_succ] at y1 y2
          rw [HS1.out.1, HS1.out.2]
          clear hT3 hk3
          go_wp2_with fail
          refine HDE.out.mono ?_
          rintro e w4 ⟨rfl, hT4, hk4⟩
          have HT4 := Lib.hid (hT4.more (show 9 * j ≤ 9 * j + 9 by omega) (Nat.le_refl _))
          have HB4 := Lib.hid ((hk4 z rfl).trans HB3.out)
          clear hT4 hk4
          generalize (docEnd ds at' an).1 = ev at *
          generalize (docEnd ds at' an).2.1 = er at *
          have hn1 : (ev != ev) = false := by simp
          have hn2 : (er != er) = false := by simp
          go_wp2_with fail
          go_meet
          exact ⟨_, _, Lib.hid ⟨HT4.out, HS2.out, HW2.out, HB4.out⟩⟩
      case rest =>
        obtain ⟨s', ds', HC⟩ := hcut
        obtain ⟨w5, hw5⟩ : ∃ x, wc = x := ⟨_, rfl⟩
        rw [hw5] at HC ⊢
        clear hw5
        have HBU := Lib.hid (pbusy_play h r _ _ l _ s' ds' at' w w5 _ HG1.out HC.out.1)
        have y1 := cell_of_row _ _ 1 _ _ _ HC.out.2.2.2
        simp only [List.getElem?_toArray, List.getElem?_cons_zero, List.getElem?_cons_succ] at y1
        obtain ⟨hb1, hb2, hb3⟩ := HC.out.2.1.busy at'
        have HDV := Lib.hid (HC.out.2.1.value acl)
        have HUS := Lib.hid (fun L hL => used_same (L := L) HC.out.2.1 HC.out.2.2.1 hL)
        obtain ⟨bq, hbq⟩ : ∃ p, s'.busy at' = p := ⟨_, rfl⟩
        obtain ⟨q1, q2⟩ := bq
        rw [hbq] at HBU hb1 hb2 hb3
        dsimp only at HBU hb1 hb2 hb3
        have HB1 := Lib.hid hb1
        clear hb1 hbq
        go_wp2_with fail
        refine HBU.out.mono ?_
        rintro e w6 ⟨rfl, hu6⟩
        have HT6 := Lib.hid (HC.out.1.up hu6)
        have HB6 := Lib.hid ((hu6.block z (Array.getElem?_eq_some_iff.1 HC.out.2.2.2).1).trans HC.out.2.2.2)
        replace y1 := cell_of_row _ _ 1 _ _ _ HB6.out
        have y4 := cell_of_row _ _ 4 _ _ _ HB6.out
        simp only [List.getElem?_toArray, List.getElem?_cons_zero, List.getElem?_cons_succ] at y1 y4
        have HDBU := Lib.hid (dbusy_play h r _ _ l _ s' ds' at' w w6 _ HT6.out (by have := HJ.out; omega))
        rw [HB1.out] at HDBU
        clear hu6
        go_wp2_with fail
        have y4d : w6.drew.cell? ⟨z, 4, none⟩ = some (.int .i64 acl) := y4
        have HY4 := Lib.hid y4d
        have HT7 := Lib.hid (HT6.out.up (Up.refl w6).drew)
        have HPV := Lib.hid (pvalue_play h r _ _ l _ s' ds' acl w w6.drew _ HGC.out HT7.out)
        have HDVA := Lib.hid (dvalue_play h r _ _ l _ s' ds' acl w w6.drew _ HT7.out (by have := HJ.out; omega))
        rw [HDV.out] at HDVA
        have HPU := Lib.hid (pused_play h r _ _ l _ s' ds' w w6.drew _ (by have := HJ.out; omega) HT7.out)
        have HDU := Lib.hid (fun W (u : Up w6.drew W) => dused_play h r _ _ l _ s' ds' w W _ (HT7.out.up u) (by have := HJ.out; omega))
        generalize BS.value s' acl = vv at *
        have hvv : (vv != vv) = false := by simp
        have HFI := Lib.hid (show ds'.length ≤ 1000 from by
          obtain ⟨_, _, _, _, _, _, _, _, ⟨_, _, _, _, _, _, _, g5⟩, _, _⟩ := HC.out.1
          have := g5.1; have := HJ.out; omega)
        cases q2
        · have hq1 : q1 = 0 := hb3 rfl
          subst hq1
          clear hb2 hb3
          refine HDBU.out.mono ?_
          rintro e w7 ⟨rfl, rfl⟩
          go_upto_region 20 with fail
          refine wp_region_held_drew (S := fun w' => w'.cell? ⟨z, 4, none⟩ = some (.int .i64 acl)) (by kernel_rfl) y4d (fun hS0 => ?_)
          refine wpAnyH_take (i := 0) (v := ?_) rfl (by kernel_rfl) (by kernel_rfl) (by kernel_rfl) (fun _ _ _ h => h) (Or.inl ⟨by kernel_rfl, ?_⟩) hS0 ?_
          rotate_left
          · intro w hSw
            try dsimp only at hSw
            go_simp
            try (with_reducible rfl)
          try simp only [Act.put, List.setIfInBounds_toArray, List.set_cons_zero, List.set_cons_succ]
          refine wpAnyH_take (i := 1) (v := ?_) rfl (by kernel_rfl) (by kernel_rfl) (by kernel_rfl) (fun _ _ _ h => h) (Or.inl ⟨by kernel_rfl, ?_⟩) hS0 ?_
          rotate_left
          · intro w hSw
            try dsimp only at hSw
            go_simp
            try (with_reducible rfl)
          try simp only [Act.put, List.setIfInBounds_toArray, List.set_cons_zero, List.set_cons_succ]
          refine wpAnyH_take (i := 2) (v := ?_) rfl (by kernel_rfl) (by kernel_rfl) (by kernel_rfl) (fun _ _ _ h => h) (Or.inl ⟨by kernel_rfl, ?_⟩) hS0 ?_
          rotate_left
          · intro w hSw
            try dsimp only at hSw
            go_simp
            try (with_reducible rfl)
          try simp only [Act.put, List.setIfInBounds_toArray, List.set_cons_zero, List.set_cons_succ]
          refine wpAnyH_take (i := 3) (v := ?_) rfl (by kernel_rfl) (by kernel_rfl) (by kernel_rfl) (fun _ _ _ h => h) (Or.inl ⟨by kernel_rfl, ?_⟩) hS0 ?_
          rotate_left
          · intro w hSw
            try dsimp only at hSw
            go_simp
            try (with_reducible rfl)
          try simp only [Act.put, List.setIfInBounds_toArray, List.set_cons_zero, List.set_cons_succ]
          refine wpAnyH_take (i := 4) (v := ?_) rfl (by kernel_rfl) (by kernel_rfl) (by kernel_rfl) (fun _ _ _ h => h) (Or.inl ⟨by kernel_rfl, ?_⟩) hS0 ?_
          rotate_left
          · intro w hSw
            try dsimp only at hSw
            go_simp
            try (with_reducible rfl)
          try simp only [Act.put, List.setIfInBounds_toArray, List.set_cons_zero, List.set_cons_succ]
          refine wpAnyH_take (i := 5) (v := ?_) rfl (by kernel_rfl) (by kernel_rfl) (by kernel_rfl) (fun _ _ _ h => h) (Or.inl ⟨by kernel_rfl, ?_⟩) hS0 ?_
          rotate_left
          · intro w hSw
            try dsimp only at hSw
            go_simp
            try (with_reducible rfl)
          try simp only [Act.put, List.setIfInBounds_toArray, List.set_cons_zero, List.set_cons_succ]
          refine wpAnyH_take (i := 6) (v := ?_) rfl (by kernel_rfl) (by kernel_rfl) (by kernel_rfl) (fun _ _ _ h => h) (Or.inl ⟨by kernel_rfl, ?_⟩) hS0 ?_
          rotate_left
          · intro w hSw
            try dsimp only at hSw
            go_simp
            try (with_reducible rfl)
          try simp only [Act.put, List.setIfInBounds_toArray, List.set_cons_zero, List.set_cons_succ]
          refine wpAnyH_take (i := 7) (v := undef) rfl (by kernel_rfl) (by kernel_rfl) (by kernel_rfl) (fun _ _ _ h => h) (Or.inr ⟨by kernel_rfl, rfl⟩) hS0 ?_
          try simp only [Act.put, List.setIfInBounds_toArray, List.set_cons_zero, List.set_cons_succ]
          refine wpAnyH_take (i := 8) (v := undef) rfl (by kernel_rfl) (by kernel_rfl) (by kernel_rfl) (fun _ _ _ h => h) (Or.inr ⟨by kernel_rfl, rfl⟩) hS0 ?_
          try simp only [Act.put, List.setIfInBounds_toArray, List.set_cons_zero, List.set_cons_succ]
          refine wpAnyH_take (i := 9) (v := undef) rfl (by kernel_rfl) (by kernel_rfl) (by kernel_rfl) (fun _ _ _ h => h) (Or.inr ⟨by kernel_rfl, rfl⟩) hS0 ?_
          try simp only [Act.put, List.setIfInBounds_toArray, List.set_cons_zero, List.set_cons_succ]
          refine wpAnyH_take (i := 10) (v := ?_) rfl (by kernel_rfl) (by kernel_rfl) (by kernel_rfl) (fun _ _ _ h => h) (Or.inl ⟨by kernel_rfl, ?_⟩) hS0 ?_
          rotate_left
          · intro w hSw
            try dsimp only at hSw
            go_simp
            try (with_reducible rfl)
          try simp only [Act.put, List.setIfInBounds_toArray, List.set_cons_zero, List.set_cons_succ]
          refine wpAnyH_take (i := 11) (v := ?_) rfl (by kernel_rfl) (by kernel_rfl) (by kernel_rfl) (fun _ _ _ h => h) (Or.inl ⟨by kernel_rfl, ?_⟩) hS0 ?_
          rotate_left
          · intro w hSw
            try dsimp only at hSw
            go_simp
            try (with_reducible rfl)
          try simp only [Act.put, List.setIfInBounds_toArray, List.set_cons_zero, List.set_cons_succ]
          refine wpAnyH_take (i := 12) (v := ?_) rfl (by kernel_rfl) (by kernel_rfl) (by kernel_rfl) (fun _ _ _ h => h) (Or.inl ⟨by kernel_rfl, ?_⟩) hS0 ?_
          rotate_left
          · intro w hSw
            try dsimp only at hSw
            go_simp
            try (with_reducible rfl)
          try simp only [Act.put, List.setIfInBounds_toArray, List.set_cons_zero, List.set_cons_succ]
          refine wpAnyH_take (i := 13) (v := ?_) rfl (by kernel_rfl) (by kernel_rfl) (by kernel_rfl) (fun _ _ _ h => h) (Or.inl ⟨by kernel_rfl, ?_⟩) hS0 ?_
          rotate_left
          · intro w hSw
            try dsimp only at hSw
            go_simp
            try (with_reducible rfl)
          try simp only [Act.put, List.setIfInBounds_toArray, List.set_cons_zero, List.set_cons_succ]
          refine wpAnyH_take (i := 14) (v := ?_) rfl (by kernel_rfl) (by kernel_rfl) (by kernel_rfl) (fun _ _ _ h => h) (Or.inl ⟨by kernel_rfl, ?_⟩) hS0 ?_
          rotate_left
          · intro w hSw
            try dsimp only at hSw
            go_simp
            try (with_reducible rfl)
          try simp only [Act.put, List.setIfInBounds_toArray, List.set_cons_zero, List.set_cons_succ]
          refine wpAnyH_take (i := 15) (v := ?_) rfl (by kernel_rfl) (by kernel_rfl) (by kernel_rfl) (fun _ _ _ h => h) (Or.inl ⟨by kernel_rfl, ?_⟩) hS0 ?_
          rotate_left
          · intro w hSw
            try dsimp only at hSw
            go_simp
            try (with_reducible rfl)
          try simp only [Act.put, List.setIfInBounds_toArray, List.set_cons_zero, List.set_cons_succ]
          refine wpAnyH_take (i := 16) (v := ?_) rfl (by kernel_rfl) (by kernel_rfl) (by kernel_rfl) (fun _ _ _ h => h) (Or.inl ⟨by kernel_rfl, ?_⟩) hS0 ?_
          rotate_left
          · intro w hSw
            try dsimp only at hSw
            go_simp
            try (with_reducible rfl)
          try simp only [Act.put, List.setIfInBounds_toArray, List.set_cons_zero, List.set_cons_succ]
          refine wpAnyH_take (i := 17) (v := ?_) rfl (by kernel_rfl) (by kernel_rfl) (by kernel_rfl) (fun _ _ _ h => h) (Or.inl ⟨by kernel_rfl, ?_⟩) hS0 ?_
          rotate_left
          · intro w hSw
            try dsimp only at hSw
            go_simp
            try (with_reducible rfl)
          try simp only [Act.put, List.setIfInBounds_toArray, List.set_cons_zero, List.set_cons_succ]
          refine wpAnyH_take (i := 18) (v := ?_) rfl (by kernel_rfl) (by kernel_rfl) (by kernel_rfl) (fun _ _ _ h => h) (Or.inl ⟨by kernel_rfl, ?_⟩) hS0 ?_
          rotate_left
          · intro w hSw
            try dsimp only at hSw
            go_simp
            try (with_reducible rfl)
          try simp only [Act.put, List.setIfInBounds_toArray, List.set_cons_zero, List.set_cons_succ]
          refine wpAnyH_take (i := 19) (v := ?_) rfl (by kernel_rfl) (by kernel_rfl) (by kernel_rfl) (fun _ _ _ h => h) (Or.inl ⟨by kernel_rfl, ?_⟩) hS0 ?_
          rotate_left
          · intro w hSw
            try dsimp only at hSw
            go_simp
            try (with_reducible rfl)
          try simp only [Act.put, List.setIfInBounds_toArray, List.set_cons_zero, List.set_cons_succ]
          refine wpAnyH_take (i := 20) (v := ?_) rfl (by kernel_rfl) (by kernel_rfl) (by kernel_rfl) (fun _ _ _ h => h) (Or.inl ⟨by kernel_rfl, ?_⟩) hS0 ?_
          rotate_left
          · intro w hSw
            try dsimp only at hSw
            go_simp
            try (with_reducible rfl)
          try simp only [Act.put, List.setIfInBounds_toArray, List.set_cons_zero, List.set_cons_succ]
          refine wpAnyH_take (i := 21) (v := ?_) rfl (by kernel_rfl) (by kernel_rfl) (by kernel_rfl) (fun _ _ _ h => h) (Or.inl ⟨by kernel_rfl, ?_⟩) hS0 ?_
          rotate_left
          · intro w hSw
            try dsimp only at hSw
            go_simp
            try (with_reducible rfl)
          try simp only [Act.put, List.setIfInBounds_toArray, List.set_cons_zero, List.set_cons_succ]
          refine wpAnyH_take (i := 22) (v := ?_) rfl (by kernel_rfl) (by kernel_rfl) (by kernel_rfl) (fun _ _ _ h => h) (Or.inl ⟨by kernel_rfl, ?_⟩) hS0 ?_
          rotate_left
          · intro w hSw
            try dsimp only at hSw
            go_simp
            try (with_reducible rfl)
          try simp only [Act.put, List.setIfInBounds_toArray, List.set_cons_zero, List.set_cons_succ]
          refine wpAnyH_take (i := 23) (v := ?_) rfl (by kernel_rfl) (by kernel_rfl) (by kernel_rfl) (fun _ _ _ h => h) (Or.inl ⟨by kernel_rfl, ?_⟩) hS0 ?_
          rotate_left
          · intro w hSw
            try dsimp only at hSw
            go_simp
            try (with_reducible rfl)
          try simp only [Act.put, List.setIfInBounds_toArray, List.set_cons_zero, List.set_cons_succ]
          refine wpAnyH_take (i := 24) (v := ?_) rfl (by kernel_rfl) (by kernel_rfl) (by kernel_rfl) (fun _ _ _ h => h) (Or.inl ⟨by kernel_rfl, ?_⟩) hS0 ?_
          rotate_left
          · intro w hSw
            try dsimp only at hSw
            go_simp
            try (with_reducible rfl)
          try simp only [Act.put, List.setIfInBounds_toArray, List.set_cons_zero, List.set_cons_succ]
          refine wpAnyH_take (i := 26) (v := ?_) rfl (by kernel_rfl) (by kernel_rfl) (by kernel_rfl) (fun _ _ _ h => h) (Or.inl ⟨by kernel_rfl, ?_⟩) hS0 ?_
          rotate_left
          · intro w hSw
            try dsimp only at hSw
            go_simp
            try (with_reducible rfl)
          try simp only [Act.put, List.setIfInBounds_toArray, List.set_cons_zero, List.set_cons_succ]
          refine wpAnyH_take (i := 27) (v := ?_) rfl (by kernel_rfl) (by kernel_rfl) (by kernel_rfl) (fun _ _ _ h => h) (Or.inl ⟨by kernel_rfl, ?_⟩) hS0 ?_
          rotate_left
          · intro w hSw
            try dsimp only at hSw
            go_simp
            try (with_reducible rfl)
          try simp only [Act.put, List.setIfInBounds_toArray, List.set_cons_zero, List.set_cons_succ]
          refine wpAnyH_take (i := 28) (v := ?_) rfl (by kernel_rfl) (by kernel_rfl) (by kernel_rfl) (fun _ _ _ h => h) (Or.inl ⟨by kernel_rfl, ?_⟩) hS0 ?_
          rotate_left
          · intro w hSw
            try dsimp only at hSw
            go_simp
            try (with_reducible rfl)
          try simp only [Act.put, List.setIfInBounds_toArray, List.set_cons_zero, List.set_cons_succ]
          refine wpAnyH_take (i := 29) (v := ?_) rfl (by kernel_rfl) (by kernel_rfl) (by kernel_rfl) (fun _ _ _ h => h) (Or.inl ⟨by kernel_rfl, ?_⟩) hS0 ?_
          rotate_left
          · intro w hSw
            try dsimp only at hSw
            go_simp
            try (with_reducible rfl)
          try simp only [Act.put, List.setIfInBounds_toArray, List.set_cons_zero, List.set_cons_succ]
          refine wpAnyH_ready (rs := [25]) (by kernel_rfl) (by simp) ?_
          refine AllReadyH.cons rfl (fun K hK => ?_) AllReadyH.nil
          go_simp
          refine HPV.out.mono ?_
          rintro e w8 ⟨rfl, rfl⟩
          refine hK.out _ _ hS0 (fun hS1 => ?_)
          clear hK K
          try simp only [Act.put, List.setIfInBounds_toArray, List.set_cons_zero, List.set_cons_succ]
          refine wpAnyH_ready (rs := [30]) (by kernel_rfl) (by simp) ?_
          refine AllReadyH.cons rfl (fun K hK => ?_) AllReadyH.nil
          go_simp
          refine HDVA.out.mono ?_
          rintro e w9 ⟨rfl, rfl⟩
          refine hK.out _ _ hS1 (fun hS2 => ?_)
          clear hK K
          try simp only [Act.put, List.setIfInBounds_toArray, List.set_cons_zero, List.set_cons_succ]
          refine wpAnyH_take (i := 31) (v := ?_) rfl (by kernel_rfl) (by kernel_rfl) (by kernel_rfl) (fun _ _ _ h => h) (Or.inl ⟨by kernel_rfl, ?_⟩) hS2 ?_
          rotate_left
          · intro w hSw
            try dsimp only at hSw
            go_simp
            try (with_reducible rfl)
          try simp only [Act.put, List.setIfInBounds_toArray, List.set_cons_zero, List.set_cons_succ]
          refine wpAnyH_take (i := 32) (v := ?_) rfl (by kernel_rfl) (by kernel_rfl) (by kernel_rfl) (fun _ _ _ h => h) (Or.inl ⟨by kernel_rfl, ?_⟩) hS2 ?_
          rotate_left
          · intro w hSw
            try dsimp only at hSw
            go_simp
            try (with_reducible rfl)
          try simp only [Act.put, List.setIfInBounds_toArray, List.set_cons_zero, List.set_cons_succ]
          refine wpAnyH_take (i := 33) (v := ?_) rfl (by kernel_rfl) (by kernel_rfl) (by kernel_rfl) (fun _ _ _ h => h) (Or.inl ⟨by kernel_rfl, ?_⟩) hS2 ?_
          rotate_left
          · intro w hSw
            try dsimp only at hSw
            go_simp
            try (with_reducible rfl)
          try simp only [Act.put, List.setIfInBounds_toArray, List.set_cons_zero, List.set_cons_succ]
          refine wpAnyH_take (i := 34) (v := ?_) rfl (by kernel_rfl) (by kernel_rfl) (by kernel_rfl) (fun _ _ _ h => h) (Or.inl ⟨by kernel_rfl, ?_⟩) hS2 ?_
          rotate_left
          · intro w hSw
            try dsimp only at hSw
            go_simp
            try (with_reducible rfl)
          try simp only [Act.put, List.setIfInBounds_toArray, List.set_cons_zero, List.set_cons_succ]
          refine wpAnyH_take (i := 36) (v := ?_) rfl (by kernel_rfl) (by kernel_rfl) (by kernel_rfl) (fun _ _ _ h => h) (Or.inl ⟨by kernel_rfl, ?_⟩) hS2 ?_
          rotate_left
          · intro w hSw
            try dsimp only at hSw
            go_simp
            try (with_reducible rfl)
          try simp only [Act.put, List.setIfInBounds_toArray, List.set_cons_zero, List.set_cons_succ]
          refine wpAnyH_ready (rs := [35]) (by kernel_rfl) (by simp) ?_
          refine AllReadyH.cons rfl (fun K hK => ?_) AllReadyH.nil
          go_simp
          refine HPU.out.mono ?_
          rintro e wa ⟨Aa, ca, La, rfl, hLa, hra, hua⟩
          have HLA := Lib.hid (HUS.out La hLa)
          have HRA := Lib.hid hra
          have HUA2 := Lib.hid hua
          have hS3' := (hua.cell (cell_lt hS2)).trans hS2
          clear hLa hra hua
          refine hK.out _ _ hS3' (fun hS3 => ?_)
          clear hK K
          try simp only [Act.put, List.setIfInBounds_toArray, List.set_cons_zero, List.set_cons_succ]
          refine wpAnyH_ready (rs := [37]) (by kernel_rfl) (by simp) ?_
          refine AllReadyH.cons rfl (fun K hK => ?_) AllReadyH.nil
          go_simp
          refine (HDU.out _ HUA2.out).mono ?_
          rintro e wb ⟨Ab, cb, rfl, hrb, hub⟩
          have HRB := Lib.hid hrb
          have HUB2 := Lib.hid hub
          have hS4' := (hub.cell (cell_lt hS3)).trans hS3
          clear hrb hub
          refine hK.out _ _ hS4' (fun hS4 => ?_)
          clear hK K
          try simp only [Act.put, List.setIfInBounds_toArray, List.set_cons_zero, List.set_cons_succ]
          refine wpAnyH_ready (rs := [38]) (by kernel_rfl) (by simp) ?_
          refine AllReadyH.cons rfl (fun K hK => ?_) AllReadyH.nil
          go_simp
          have hin := ints_any La (usedK ds' ds'.length) Aa Ab ca cb wb (by rw [HLA.out, usedK_len]; have := HFI.out; omega) (by rw [usedK_len]; have := HFI.out; omega) (HRA.out.up HUB2.out) HRB.out
          rw [decide_eq_true HLA.out] at hin
          refine hin.mono ?_
          rintro e wd ⟨rfl, hbd⟩
          have HUD := Lib.hid (show Up wb wd from hbd)
          have hS5' := (HUD.out.cell (cell_lt hS4)).trans hS4
          clear hbd hin
          refine hK.out _ _ hS5' (fun hS5 => ?_)
          clear hK K
          try simp only [Act.put, List.setIfInBounds_toArray, List.set_cons_zero, List.set_cons_succ]
          refine wpAnyH_take (i := 39) (v := ?_) rfl (by kernel_rfl) (by kernel_rfl) (by kernel_rfl) (fun _ _ _ h => h) (Or.inl ⟨by kernel_rfl, ?_⟩) hS5 ?_
          rotate_left
          · intro w hSw
            try dsimp only at hSw
            go_simp
            try (with_reducible rfl)
          try simp only [Act.put, List.setIfInBounds_toArray, List.set_cons_zero, List.set_cons_succ]
          refine wpAnyH_take (i := 40) (v := ?_) rfl (by kernel_rfl) (by kernel_rfl) (by kernel_rfl) (fun _ _ _ h => h) (Or.inl ⟨by kernel_rfl, ?_⟩) hS5 ?_
          rotate_left
          · intro w hSw
            try dsimp only at hSw
            go_simp
            try (with_reducible rfl)
          try simp only [Act.put, List.setIfInBounds_toArray, List.set_cons_zero, List.set_cons_succ]
          refine wpAnyH_done (by kernel_rfl) ?_ _
          try simp only [Act.put, List.setIfInBounds_toArray, List.set_cons_zero, List.set_cons_succ, List.getElem_toArray, List.getElem_cons_succ, List.getElem_cons_zero]
          clear hS0 hS1 hS2 hS3 hS4 hS5 y1 y4 y4d
          have HTF := Lib.hid ((HT7.out.up (HUA2.out.trans (HUB2.out.trans HUD.out))).less (Z' := fun _ => False) (fun z hz => hz.elim))
          go_wp2_with fail
          go_roundw
          case rel => exact ⟨j + 1, s', ds', HLT.out, by go_num, Lib.hid ⟨HTF.out.more (by omega) (Nat.le_refl _), HC.out.2.1, HC.out.2.2.1⟩⟩
          case measure => simp [intOf]; omega
        · have hq1 : 0 ≤ q1 := hb2 rfl
          have hq2 : decide (0 ≤ q1) = true := decide_eq_true hq1
          have hq3 : (q1 != q1) = false := by simp
          clear hb2 hb3
          refine HDBU.out.mono ?_
          rintro e w7 ⟨rfl, rfl⟩
          go_upto_region 20 with fail
          refine wp_region_held_drew (S := fun w' => w'.cell? ⟨z, 4, none⟩ = some (.int .i64 acl)) (by kernel_rfl) y4d (fun hS0 => ?_)
          refine wpAnyH_take (i := 0) (v := ?_) rfl (by kernel_rfl) (by kernel_rfl) (by kernel_rfl) (fun _ _ _ h => h) (Or.inl ⟨by kernel_rfl, ?_⟩) hS0 ?_
          rotate_left
          · intro w hSw
            try dsimp only at hSw
            go_simp
            try (with_reducible rfl)
          try simp only [Act.put, List.setIfInBounds_toArray, List.set_cons_zero, List.set_cons_succ]
          refine wpAnyH_take (i := 1) (v := ?_) rfl (by kernel_rfl) (by kernel_rfl) (by kernel_rfl) (fun _ _ _ h => h) (Or.inl ⟨by kernel_rfl, ?_⟩) hS0 ?_
          rotate_left
          · intro w hSw
            try dsimp only at hSw
            go_simp
            try (with_reducible rfl)
          try simp only [Act.put, List.setIfInBounds_toArray, List.set_cons_zero, List.set_cons_succ]
          refine wpAnyH_take (i := 2) (v := ?_) rfl (by kernel_rfl) (by kernel_rfl) (by kernel_rfl) (fun _ _ _ h => h) (Or.inl ⟨by kernel_rfl, ?_⟩) hS0 ?_
          rotate_left
          · intro w hSw
            try dsimp only at hSw
            go_simp
            try (with_reducible rfl)
          try simp only [Act.put, List.setIfInBounds_toArray, List.set_cons_zero, List.set_cons_succ]
          refine wpAnyH_take (i := 3) (v := ?_) rfl (by kernel_rfl) (by kernel_rfl) (by kernel_rfl) (fun _ _ _ h => h) (Or.inl ⟨by kernel_rfl, ?_⟩) hS0 ?_
          rotate_left
          · intro w hSw
            try dsimp only at hSw
            go_simp
            try (with_reducible rfl)
          try simp only [Act.put, List.setIfInBounds_toArray, List.set_cons_zero, List.set_cons_succ]
          refine wpAnyH_take (i := 4) (v := ?_) rfl (by kernel_rfl) (by kernel_rfl) (by kernel_rfl) (fun _ _ _ h => h) (Or.inl ⟨by kernel_rfl, ?_⟩) hS0 ?_
          rotate_left
          · intro w hSw
            try dsimp only at hSw
            go_simp
            try (with_reducible rfl)
          try simp only [Act.put, List.setIfInBounds_toArray, List.set_cons_zero, List.set_cons_succ]
          refine wpAnyH_take (i := 5) (v := ?_) rfl (by kernel_rfl) (by kernel_rfl) (by kernel_rfl) (fun _ _ _ h => h) (Or.inl ⟨by kernel_rfl, ?_⟩) hS0 ?_
          rotate_left
          · intro w hSw
            try dsimp only at hSw
            go_simp
            try (with_reducible rfl)
          try simp only [Act.put, List.setIfInBounds_toArray, List.set_cons_zero, List.set_cons_succ]
          refine wpAnyH_take (i := 6) (v := ?_) rfl (by kernel_rfl) (by kernel_rfl) (by kernel_rfl) (fun _ _ _ h => h) (Or.inl ⟨by kernel_rfl, ?_⟩) hS0 ?_
          rotate_left
          · intro w hSw
            try dsimp only at hSw
            go_simp
            try (with_reducible rfl)
          try simp only [Act.put, List.setIfInBounds_toArray, List.set_cons_zero, List.set_cons_succ]
          refine wpAnyH_take (i := 7) (v := ?_) rfl (by kernel_rfl) (by kernel_rfl) (by kernel_rfl) (fun _ _ _ h => h) (Or.inl ⟨by kernel_rfl, ?_⟩) hS0 ?_
          rotate_left
          · intro w hSw
            try dsimp only at hSw
            go_simp
            try (with_reducible rfl)
          try simp only [Act.put, List.setIfInBounds_toArray, List.set_cons_zero, List.set_cons_succ]
          refine wpAnyH_take (i := 8) (v := ?_) rfl (by kernel_rfl) (by kernel_rfl) (by kernel_rfl) (fun _ _ _ h => h) (Or.inl ⟨by kernel_rfl, ?_⟩) hS0 ?_
          rotate_left
          · intro w hSw
            try dsimp only at hSw
            go_simp
            try (with_reducible rfl)
          try simp only [Act.put, List.setIfInBounds_toArray, List.set_cons_zero, List.set_cons_succ]
          refine wpAnyH_take (i := 9) (v := ?_) rfl (by kernel_rfl) (by kernel_rfl) (by kernel_rfl) (fun _ _ _ h => h) (Or.inl ⟨by kernel_rfl, ?_⟩) hS0 ?_
          rotate_left
          · intro w hSw
            try dsimp only at hSw
            go_simp
            try (with_reducible rfl)
          try simp only [Act.put, List.setIfInBounds_toArray, List.set_cons_zero, List.set_cons_succ]
          refine wpAnyH_take (i := 10) (v := ?_) rfl (by kernel_rfl) (by kernel_rfl) (by kernel_rfl) (fun _ _ _ h => h) (Or.inl ⟨by kernel_rfl, ?_⟩) hS0 ?_
          rotate_left
          · intro w hSw
            try dsimp only at hSw
            go_simp
            try (with_reducible rfl)
          try simp only [Act.put, List.setIfInBounds_toArray, List.set_cons_zero, List.set_cons_succ]
          refine wpAnyH_take (i := 11) (v := ?_) rfl (by kernel_rfl) (by kernel_rfl) (by kernel_rfl) (fun _ _ _ h => h) (Or.inl ⟨by kernel_rfl, ?_⟩) hS0 ?_
          rotate_left
          · intro w hSw
            try dsimp only at hSw
            go_simp
            try (with_reducible rfl)
          try simp only [Act.put, List.setIfInBounds_toArray, List.set_cons_zero, List.set_cons_succ]
          refine wpAnyH_take (i := 12) (v := ?_) rfl (by kernel_rfl) (by kernel_rfl) (by kernel_rfl) (fun _ _ _ h => h) (Or.inl ⟨by kernel_rfl, ?_⟩) hS0 ?_
          rotate_left
          · intro w hSw
            try dsimp only at hSw
            go_simp
            try (with_reducible rfl)
          try simp only [Act.put, List.setIfInBounds_toArray, List.set_cons_zero, List.set_cons_succ]
          refine wpAnyH_take (i := 13) (v := ?_) rfl (by kernel_rfl) (by kernel_rfl) (by kernel_rfl) (fun _ _ _ h => h) (Or.inl ⟨by kernel_rfl, ?_⟩) hS0 ?_
          rotate_left
          · intro w hSw
            try dsimp only at hSw
            go_simp
            try (with_reducible rfl)
          try simp only [Act.put, List.setIfInBounds_toArray, List.set_cons_zero, List.set_cons_succ]
          refine wpAnyH_take (i := 14) (v := ?_) rfl (by kernel_rfl) (by kernel_rfl) (by kernel_rfl) (fun _ _ _ h => h) (Or.inl ⟨by kernel_rfl, ?_⟩) hS0 ?_
          rotate_left
          · intro w hSw
            try dsimp only at hSw
            go_simp
            try (with_reducible rfl)
          try simp only [Act.put, List.setIfInBounds_toArray, List.set_cons_zero, List.set_cons_succ]
          refine wpAnyH_take (i := 15) (v := ?_) rfl (by kernel_rfl) (by kernel_rfl) (by kernel_rfl) (fun _ _ _ h => h) (Or.inl ⟨by kernel_rfl, ?_⟩) hS0 ?_
          rotate_left
          · intro w hSw
            try dsimp only at hSw
            go_simp
            try (with_reducible rfl)
          try simp only [Act.put, List.setIfInBounds_toArray, List.set_cons_zero, List.set_cons_succ]
          refine wpAnyH_take (i := 16) (v := undef) rfl (by kernel_rfl) (by kernel_rfl) (by kernel_rfl) (fun _ _ _ h => h) (Or.inr ⟨by kernel_rfl, rfl⟩) hS0 ?_
          try simp only [Act.put, List.setIfInBounds_toArray, List.set_cons_zero, List.set_cons_succ]
          refine wpAnyH_take (i := 17) (v := undef) rfl (by kernel_rfl) (by kernel_rfl) (by kernel_rfl) (fun _ _ _ h => h) (Or.inr ⟨by kernel_rfl, rfl⟩) hS0 ?_
          try simp only [Act.put, List.setIfInBounds_toArray, List.set_cons_zero, List.set_cons_succ]
          refine wpAnyH_take (i := 18) (v := ?_) rfl (by kernel_rfl) (by kernel_rfl) (by kernel_rfl) (fun _ _ _ h => h) (Or.inl ⟨by kernel_rfl, ?_⟩) hS0 ?_
          rotate_left
          · intro w hSw
            try dsimp only at hSw
            go_simp
            try (with_reducible rfl)
          try simp only [Act.put, List.setIfInBounds_toArray, List.set_cons_zero, List.set_cons_succ]
          refine wpAnyH_take (i := 19) (v := ?_) rfl (by kernel_rfl) (by kernel_rfl) (by kernel_rfl) (fun _ _ _ h => h) (Or.inl ⟨by kernel_rfl, ?_⟩) hS0 ?_
          rotate_left
          · intro w hSw
            try dsimp only at hSw
            go_simp
            try (with_reducible rfl)
          try simp only [Act.put, List.setIfInBounds_toArray, List.set_cons_zero, List.set_cons_succ]
          refine wpAnyH_take (i := 20) (v := ?_) rfl (by kernel_rfl) (by kernel_rfl) (by kernel_rfl) (fun _ _ _ h => h) (Or.inl ⟨by kernel_rfl, ?_⟩) hS0 ?_
          rotate_left
          · intro w hSw
            try dsimp only at hSw
            go_simp
            try (with_reducible rfl)
          try simp only [Act.put, List.setIfInBounds_toArray, List.set_cons_zero, List.set_cons_succ]
          refine wpAnyH_take (i := 21) (v := ?_) rfl (by kernel_rfl) (by kernel_rfl) (by kernel_rfl) (fun _ _ _ h => h) (Or.inl ⟨by kernel_rfl, ?_⟩) hS0 ?_
          rotate_left
          · intro w hSw
            try dsimp only at hSw
            go_simp
            try (with_reducible rfl)
          try simp only [Act.put, List.setIfInBounds_toArray, List.set_cons_zero, List.set_cons_succ]
          refine wpAnyH_take (i := 22) (v := ?_) rfl (by kernel_rfl) (by kernel_rfl) (by kernel_rfl) (fun _ _ _ h => h) (Or.inl ⟨by kernel_rfl, ?_⟩) hS0 ?_
          rotate_left
          · intro w hSw
            try dsimp only at hSw
            go_simp
            try (with_reducible rfl)
          try simp only [Act.put, List.setIfInBounds_toArray, List.set_cons_zero, List.set_cons_succ]
          refine wpAnyH_take (i := 23) (v := ?_) rfl (by kernel_rfl) (by kernel_rfl) (by kernel_rfl) (fun _ _ _ h => h) (Or.inl ⟨by kernel_rfl, ?_⟩) hS0 ?_
          rotate_left
          · intro w hSw
            try dsimp only at hSw
            go_simp
            try (with_reducible rfl)
          try simp only [Act.put, List.setIfInBounds_toArray, List.set_cons_zero, List.set_cons_succ]
          refine wpAnyH_take (i := 24) (v := ?_) rfl (by kernel_rfl) (by kernel_rfl) (by kernel_rfl) (fun _ _ _ h => h) (Or.inl ⟨by kernel_rfl, ?_⟩) hS0 ?_
          rotate_left
          · intro w hSw
            try dsimp only at hSw
            go_simp
            try (with_reducible rfl)
          try simp only [Act.put, List.setIfInBounds_toArray, List.set_cons_zero, List.set_cons_succ]
          refine wpAnyH_take (i := 26) (v := ?_) rfl (by kernel_rfl) (by kernel_rfl) (by kernel_rfl) (fun _ _ _ h => h) (Or.inl ⟨by kernel_rfl, ?_⟩) hS0 ?_
          rotate_left
          · intro w hSw
            try dsimp only at hSw
            go_simp
            try (with_reducible rfl)
          try simp only [Act.put, List.setIfInBounds_toArray, List.set_cons_zero, List.set_cons_succ]
          refine wpAnyH_take (i := 27) (v := ?_) rfl (by kernel_rfl) (by kernel_rfl) (by kernel_rfl) (fun _ _ _ h => h) (Or.inl ⟨by kernel_rfl, ?_⟩) hS0 ?_
          rotate_left
          · intro w hSw
            try dsimp only at hSw
            go_simp
            try (with_reducible rfl)
          try simp only [Act.put, List.setIfInBounds_toArray, List.set_cons_zero, List.set_cons_succ]
          refine wpAnyH_take (i := 28) (v := ?_) rfl (by kernel_rfl) (by kernel_rfl) (by kernel_rfl) (fun _ _ _ h => h) (Or.inl ⟨by kernel_rfl, ?_⟩) hS0 ?_
          rotate_left
          · intro w hSw
            try dsimp only at hSw
            go_simp
            try (with_reducible rfl)
          try simp only [Act.put, List.setIfInBounds_toArray, List.set_cons_zero, List.set_cons_succ]
          refine wpAnyH_take (i := 29) (v := ?_) rfl (by kernel_rfl) (by kernel_rfl) (by kernel_rfl) (fun _ _ _ h => h) (Or.inl ⟨by kernel_rfl, ?_⟩) hS0 ?_
          rotate_left
          · intro w hSw
            try dsimp only at hSw
            go_simp
            try (with_reducible rfl)
          try simp only [Act.put, List.setIfInBounds_toArray, List.set_cons_zero, List.set_cons_succ]
          refine wpAnyH_ready (rs := [25]) (by kernel_rfl) (by simp) ?_
          refine AllReadyH.cons rfl (fun K hK => ?_) AllReadyH.nil
          go_simp
          refine HPV.out.mono ?_
          rintro e w8 ⟨rfl, rfl⟩
          refine hK.out _ _ hS0 (fun hS1 => ?_)
          clear hK K
          try simp only [Act.put, List.setIfInBounds_toArray, List.set_cons_zero, List.set_cons_succ]
          refine wpAnyH_ready (rs := [30]) (by kernel_rfl) (by simp) ?_
          refine AllReadyH.cons rfl (fun K hK => ?_) AllReadyH.nil
          go_simp
          refine HDVA.out.mono ?_
          rintro e w9 ⟨rfl, rfl⟩
          refine hK.out _ _ hS1 (fun hS2 => ?_)
          clear hK K
          try simp only [Act.put, List.setIfInBounds_toArray, List.set_cons_zero, List.set_cons_succ]
          refine wpAnyH_take (i := 31) (v := ?_) rfl (by kernel_rfl) (by kernel_rfl) (by kernel_rfl) (fun _ _ _ h => h) (Or.inl ⟨by kernel_rfl, ?_⟩) hS2 ?_
          rotate_left
          · intro w hSw
            try dsimp only at hSw
            go_simp
            try (with_reducible rfl)
          try simp only [Act.put, List.setIfInBounds_toArray, List.set_cons_zero, List.set_cons_succ]
          refine wpAnyH_take (i := 32) (v := ?_) rfl (by kernel_rfl) (by kernel_rfl) (by kernel_rfl) (fun _ _ _ h => h) (Or.inl ⟨by kernel_rfl, ?_⟩) hS2 ?_
          rotate_left
          · intro w hSw
            try dsimp only at hSw
            go_simp
            try (with_reducible rfl)
          try simp only [Act.put, List.setIfInBounds_toArray, List.set_cons_zero, List.set_cons_succ]
          refine wpAnyH_take (i := 33) (v := ?_) rfl (by kernel_rfl) (by kernel_rfl) (by kernel_rfl) (fun _ _ _ h => h) (Or.inl ⟨by kernel_rfl, ?_⟩) hS2 ?_
          rotate_left
          · intro w hSw
            try dsimp only at hSw
            go_simp
            try (with_reducible rfl)
          try simp only [Act.put, List.setIfInBounds_toArray, List.set_cons_zero, List.set_cons_succ]
          refine wpAnyH_take (i := 34) (v := ?_) rfl (by kernel_rfl) (by kernel_rfl) (by kernel_rfl) (fun _ _ _ h => h) (Or.inl ⟨by kernel_rfl, ?_⟩) hS2 ?_
          rotate_left
          · intro w hSw
            try dsimp only at hSw
            go_simp
            try (with_reducible rfl)
          try simp only [Act.put, List.setIfInBounds_toArray, List.set_cons_zero, List.set_cons_succ]
          refine wpAnyH_take (i := 36) (v := ?_) rfl (by kernel_rfl) (by kernel_rfl) (by kernel_rfl) (fun _ _ _ h => h) (Or.inl ⟨by kernel_rfl, ?_⟩) hS2 ?_
          rotate_left
          · intro w hSw
            try dsimp only at hSw
            go_simp
            try (with_reducible rfl)
          try simp only [Act.put, List.setIfInBounds_toArray, List.set_cons_zero, List.set_cons_succ]
          refine wpAnyH_ready (rs := [35]) (by kernel_rfl) (by simp) ?_
          refine AllReadyH.cons rfl (fun K hK => ?_) AllReadyH.nil
          go_simp
          refine HPU.out.mono ?_
          rintro e wa ⟨Aa, ca, La, rfl, hLa, hra, hua⟩
          have HLA := Lib.hid (HUS.out La hLa)
          have HRA := Lib.hid hra
          have HUA2 := Lib.hid hua
          have hS3' := (hua.cell (cell_lt hS2)).trans hS2
          clear hLa hra hua
          refine hK.out _ _ hS3' (fun hS3 => ?_)
          clear hK K
          try simp only [Act.put, List.setIfInBounds_toArray, List.set_cons_zero, List.set_cons_succ]
          refine wpAnyH_ready (rs := [37]) (by kernel_rfl) (by simp) ?_
          refine AllReadyH.cons rfl (fun K hK => ?_) AllReadyH.nil
          go_simp
          refine (HDU.out _ HUA2.out).mono ?_
          rintro e wb ⟨Ab, cb, rfl, hrb, hub⟩
          have HRB := Lib.hid hrb
          have HUB2 := Lib.hid hub
          have hS4' := (hub.cell (cell_lt hS3)).trans hS3
          clear hrb hub
          refine hK.out _ _ hS4' (fun hS4 => ?_)
          clear hK K
          try simp only [Act.put, List.setIfInBounds_toArray, List.set_cons_zero, List.set_cons_succ]
          refine wpAnyH_ready (rs := [38]) (by kernel_rfl) (by simp) ?_
          refine AllReadyH.cons rfl (fun K hK => ?_) AllReadyH.nil
          go_simp
          have hin := ints_any La (usedK ds' ds'.length) Aa Ab ca cb wb (by rw [HLA.out, usedK_len]; have := HFI.out; omega) (by rw [usedK_len]; have := HFI.out; omega) (HRA.out.up HUB2.out) HRB.out
          rw [decide_eq_true HLA.out] at hin
          refine hin.mono ?_
          rintro e wd ⟨rfl, hbd⟩
          have HUD := Lib.hid (show Up wb wd from hbd)
          have hS5' := (HUD.out.cell (cell_lt hS4)).trans hS4
          clear hbd hin
          refine hK.out _ _ hS5' (fun hS5 => ?_)
          clear hK K
          try simp only [Act.put, List.setIfInBounds_toArray, List.set_cons_zero, List.set_cons_succ]
          refine wpAnyH_take (i := 39) (v := ?_) rfl (by kernel_rfl) (by kernel_rfl) (by kernel_rfl) (fun _ _ _ h => h) (Or.inl ⟨by kernel_rfl, ?_⟩) hS5 ?_
          rotate_left
          · intro w hSw
            try dsimp only at hSw
            go_simp
            try (with_reducible rfl)
          try simp only [Act.put, List.setIfInBounds_toArray, List.set_cons_zero, List.set_cons_succ]
          refine wpAnyH_take (i := 40) (v := ?_) rfl (by kernel_rfl) (by kernel_rfl) (by kernel_rfl) (fun _ _ _ h => h) (Or.inl ⟨by kernel_rfl, ?_⟩) hS5 ?_
          rotate_left
          · intro w hSw
            try dsimp only at hSw
            go_simp
            try (with_reducible rfl)
          try simp only [Act.put, List.setIfInBounds_toArray, List.set_cons_zero, List.set_cons_succ]
          refine wpAnyH_done (by kernel_rfl) ?_ _
          try simp only [Act.put, List.setIfInBounds_toArray, List.set_cons_zero, List.set_cons_succ, List.getElem_toArray, List.getElem_cons_succ, List.getElem_cons_zero]
          clear hS0 hS1 hS2 hS3 hS4 hS5 y1 y4 y4d
          have HTF := Lib.hid ((HT7.out.up (HUA2.out.trans (HUB2.out.trans HUD.out))).less (Z' := fun _ => False) (fun z hz => hz.elim))
          go_wp2_with fail
          go_roundw
          case rel => exact ⟨j + 1, s', ds', HLT.out, by go_num, Lib.hid ⟨HTF.out.more (by omega) (Nat.le_refl _), HC.out.2.1, HC.out.2.2.1⟩⟩
          case measure => simp [intOf]; omega
    · obtain rfl : j = ts.length := by omega
      clear hlt
      go_wp2_with fail
      refine (HAL.out _).mono ?_
      rintro e w2 ⟨rfl, hU⟩
      go_wp2_with fail
      go_ret
      exact ⟨rfl, HV.out.1.1.trans hU⟩

end Go.Proofs.Ytpapcheliohacaa
