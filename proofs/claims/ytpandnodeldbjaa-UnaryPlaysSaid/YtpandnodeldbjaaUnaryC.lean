/-
  The closure of UnaryPlays.
-/
import Derived.Test.YtpandnodeldbjaaUnaryB
import Derived.Test.YtpandnodeldbjaaUnaryR
import Derived.Test.YtpandnodeldbjaaUnaryD
import Derived.Test.YtpandnodeldbjaaSteadyC
set_option linter.unusedVariables false
set_option linter.unusedSimpArgs false
namespace Go.Proofs.Ytpandnodeldbjaa
open Go.RowKit

set_option maxRecDepth 10000 in
set_option maxHeartbeats 1000000 in
theorem clUnary_any (l : List Int) (A : Option Addr) (c g B p q : Nat) (k0 b lo n0 wt rd tp : Int) (s : TS) (w : World) (hbx : BoxesL w p q A l.length c (regC k0 b lo n0 wt rd tp))
    (hb0 : -1099511627776 ≤ b) (hb1 : b ≤ 1099511627776) (hl0 : -1099511627776 ≤ lo) (hl1 : lo ≤ 1099511627776)
    (h : Tape1 w g B s) (hl : l.length ≤ 100) (hr : Row w A l.length (IVal l)) (hlow : ∀ b off, A = some ⟨b, off, none⟩ → 0 < l.length → b < g) (hp : p < g) (hq : q < g) :
    Calls Try.prog 35 #[.pointer (some ⟨g, 0, none⟩), .pointer (some ⟨p, 0, none⟩), .pointer (some ⟨q, 0, none⟩)] w (TPost encI g B w ((rowOp 300 (unR b tp) (unW b lo tp) l 0).onT s)) := by
  have HR := Lib.hid hr
  have HLOW := Lib.hid hlow
  have HBX := Lib.hid hbx
  have HT := Lib.hid h
  have HPQ := Lib.hid (show p < g ∧ q < g from ⟨hp, hq⟩)
  have HRC := Lib.hid (fun s W hT => unaryR_any k0 b lo n0 wt rd tp g B s W hT hb0 hb1 hl0 hl1)
  have HWC := Lib.hid (fun v s W hT => unaryW_any k0 b lo n0 wt rd tp v g B s W hT hb0 hb1 hl0 hl1)
  obtain ⟨RO, hRO⟩ : ∃ o, unR b tp = o := ⟨_, rfl⟩
  obtain ⟨WO, hWO⟩ : ∃ o, unW b lo tp = o := ⟨_, rfl⟩
  rw [hRO] at HRC
  have HWC2 := Lib.hid (fun v s W hT => (show Calls Try.prog 37 #[.pointer (some ⟨g, 0, none⟩), regV k0 b lo n0 wt rd tp, .int .i64 v] W (TPost encU g B W ((WO v).onT s)) by rw [← hWO]; exact HWC.out v s W hT))
  rw [hRO, hWO]
  have HDR := Lib.hid (fun k (hk : k < l.length) => rowOp_drop 300 RO WO hk)
  obtain ⟨r, hr'⟩ : ∃ r, (rowOp 300 RO WO l 0).onT s = r := ⟨_, rfl⟩
  have HD0 := Lib.hid (show (rowOp 300 RO WO (l.drop 0) 0).onT s = r by rw [List.drop_zero]; exact hr')
  rw [hr']
  obtain ⟨n, hn'⟩ : ∃ n, l.length = n := ⟨_, rfl⟩
  have HEND := Lib.hid (show ∀ sum s', (rowOp 300 RO WO (l.drop n) sum).onT s' = (some sum, s') from fun sum s' => by rw [List.drop_of_length_le (by omega)]; rfl)
  rw [hn'] at hl HLOW HDR HBX HR
  have HN := Lib.hid hn'
  clear hr' hn' h hr hlow hbx hp hq hb0 hb1 hl0 hl1 hRO hWO HWC
  unfold regV at HRC HWC2
  go_enter Try.func35, Try.ntmps35
  go_wp2_with fail
  go_loopw [5, 6] (fun u t wr => ∃ (k : Nat) (sum : Int) (s' : TS), k ≤ n ∧ u = .int .i64 sum ∧ t = .int .i64 k ∧ Hid (Tape1 wr g B s') ∧ Hid (TK g B w wr) ∧ Hid ((rowOp 300 RO WO (l.drop k) sum).onT s' = r)) (fun _ t _ => n - (intOf t).toNat)
  case atStart => exact ⟨0, 0, s, by omega, rfl, rfl, HT, Lib.hid (TK.refl _ _ _), HD0⟩
  case round =>
    obtain ⟨k, sum, s', hk, rfl, rfl, HTr, HKr, HDr⟩ := hrel
    have HBr := Lib.hid (HBX.out.tk HKr.out HPQ.out.1 HPQ.out.2 HTr.out.1.gB)
    have cp := cell_of_row wr _ 0 _ _ _ HBr.out.1
    simp only [List.getElem?_toArray, List.getElem?_cons_zero] at cp
    by_cases hlt : k < n
    · obtain ⟨ba, off, rfl, h1⟩ := HR.out k hlt
      have hb3 := HLOW.out ba off rfl (by omega)
      have hsame := HKr.out.block ba (cell_lt h1) (by omega) (Far.low (by have := HTr.out.1.gB; omega))
      have w1 := (tcell (o := off + k) hsame).trans h1
      have HA := Lib.hid (HDr.out.symm.trans (HDR.out k hlt sum s'))
      obtain ⟨x, hx⟩ : ∃ x, l.getD k 0 = x := ⟨_, rfl⟩
      unfold IVal at w1
      rw [hx] at w1 HA
      have cq := HBr.out.2
      have e0 := cell_of_row wr q 0 _ _ _ cq
      have e1 := cell_of_row wr q 1 _ _ _ cq
      have e2 := cell_of_row wr q 2 _ _ _ cq
      have e3 := cell_of_row wr q 3 _ _ _ cq
      have e4 := cell_of_row wr q 4 _ _ _ cq
      have e5 := cell_of_row wr q 5 _ _ _ cq
      have e6 := cell_of_row wr q 6 _ _ _ cq
      simp only [regC, List.getElem?_toArray, List.getElem?_cons_zero, List.getElem?_cons_succ] at e0 e1 e2 e3 e4 e5 e6
      have HEL := Lib.hid (fun (w' : World) (k' : TK g B wr w') => (tcell (k'.block ba (cell_lt w1) (by omega) (Far.low (by have := HTr.out.1.gB; omega)))).trans w1)
      have hki : (k : Int) < n := by omega
      have hk0 : (0 : Int) ≤ (k : Int) := by omega
      clear hx h1 hsame cq hb3 HR HLOW
      by_cases hneg : x < 0
      · rw [if_pos hneg] at HA
        have HS := Lib.hid (HRC.out s' wr HTr.out)
        go_wp2_with fail
        refine HS.out.mono ?_
        intro e w4 hT
        rcases hT.two with ⟨v, s4, hq4, he, hT4, hK4⟩ | ⟨s4, hq4, he, hT4, hK4⟩
        · have he2 : e = .returned (.int .i64 v) := he
          subst he2
          rw [hq4] at HA
          have HT4 := Lib.hid hT4
          have HK4 := Lib.hid (HKr.out.trans hK4)
          clear he hT hT4 hK4 hq4
          go_wp2_with fail
          go_roundw
          case rel => exact ⟨k + 1, _, _, by omega, rfl, by go_num, HT4, HK4, Lib.hid HA.out.symm⟩
          case measure => simp [intOf]; omega
        · subst he
          rw [hq4] at HA
          have HT4 := Lib.hid hT4
          have HK4 := Lib.hid (HKr.out.trans hK4)
          clear hT hT4 hK4 hq4
          go_wp2_with fail
          exact ⟨rfl, TPost.none HA.out ⟨rfl, HT4.out, HK4.out⟩⟩
      · rw [if_neg hneg] at HA
        have HS := Lib.hid (HWC2.out x s' wr.drew (HTr.out.up (Up.refl wr).drew))
        have HKD := Lib.hid (TK.ofUp (g := g) (B := B) (Up.refl wr).drew)
        have S0 : wr.cell? ⟨p, 0, none⟩ = some (.slice (some ⟨ba, off, none⟩) n c) ∧ wr.cell? ⟨ba, off + k, none⟩ = some (.int .i64 x) ∧ wr.cell? ⟨q, 0, none⟩ = some (.int .i64 k0) ∧ wr.cell? ⟨q, 1, none⟩ = some (.int .i64 b) ∧ wr.cell? ⟨q, 2, none⟩ = some (.int .i64 lo) ∧ wr.cell? ⟨q, 3, none⟩ = some (.int .i64 n0) ∧ wr.cell? ⟨q, 4, none⟩ = some (.int .i64 wt) ∧ wr.cell? ⟨q, 5, none⟩ = some (.int .i64 rd) ∧ wr.cell? ⟨q, 6, none⟩ = some (.int .i64 tp) := ⟨cp, w1, e0, e1, e2, e3, e4, e5, e6⟩
        have HSB := Lib.hid (fun (w' : World) (k' : TK g B wr w') => show w'.cell? ⟨p, 0, none⟩ = some (.slice (some ⟨ba, off, none⟩) n c) ∧ w'.cell? ⟨ba, off + k, none⟩ = some (.int .i64 x) ∧ w'.cell? ⟨q, 0, none⟩ = some (.int .i64 k0) ∧ w'.cell? ⟨q, 1, none⟩ = some (.int .i64 b) ∧ w'.cell? ⟨q, 2, none⟩ = some (.int .i64 lo) ∧ w'.cell? ⟨q, 3, none⟩ = some (.int .i64 n0) ∧ w'.cell? ⟨q, 4, none⟩ = some (.int .i64 wt) ∧ w'.cell? ⟨q, 5, none⟩ = some (.int .i64 rd) ∧ w'.cell? ⟨q, 6, none⟩ = some (.int .i64 tp) from
          have hb := HBr.out.tk k' HPQ.out.1 HPQ.out.2 HTr.out.1.gB
          ⟨cell_of_row w' p 0 _ _ _ hb.1, HEL.out w' k', cell_of_row w' q 0 _ _ _ hb.2, cell_of_row w' q 1 _ _ _ hb.2, cell_of_row w' q 2 _ _ _ hb.2, cell_of_row w' q 3 _ _ _ hb.2, cell_of_row w' q 4 _ _ _ hb.2, cell_of_row w' q 5 _ _ _ hb.2, cell_of_row w' q 6 _ _ _ hb.2⟩)
        go_wp2_with fail
        clear cp w1 e0 e1 e2 e3 e4 e5 e6
        refine wp_region_held_drew (S := fun w' => w'.cell? ⟨p, 0, none⟩ = some (.slice (some ⟨ba, off, none⟩) n c) ∧ w'.cell? ⟨ba, off + k, none⟩ = some (.int .i64 x) ∧ w'.cell? ⟨q, 0, none⟩ = some (.int .i64 k0) ∧ w'.cell? ⟨q, 1, none⟩ = some (.int .i64 b) ∧ w'.cell? ⟨q, 2, none⟩ = some (.int .i64 lo) ∧ w'.cell? ⟨q, 3, none⟩ = some (.int .i64 n0) ∧ w'.cell? ⟨q, 4, none⟩ = some (.int .i64 wt) ∧ w'.cell? ⟨q, 5, none⟩ = some (.int .i64 rd) ∧ w'.cell? ⟨q, 6, none⟩ = some (.int .i64 tp)) (by kernel_rfl) S0 (fun hH0 => ?_)
        refine wpAnyH_take (i := 0) (v := ?_) rfl (by kernel_rfl) (by kernel_rfl) (by kernel_rfl) (fun _ _ _ h => h) (Or.inl ⟨by kernel_rfl, ?_⟩) hH0 ?_
        rotate_left
        · intro w hSw
          try dsimp only at hSw
          go_simp
          try (with_reducible rfl)
        try simp only [Act.put, List.setIfInBounds_toArray, List.set_cons_zero, List.set_cons_succ]
        refine wpAnyH_take (i := 1) (v := ?_) rfl (by kernel_rfl) (by kernel_rfl) (by kernel_rfl) (fun _ _ _ h => h) (Or.inl ⟨by kernel_rfl, ?_⟩) hH0 ?_
        rotate_left
        · intro w hSw
          try dsimp only at hSw
          go_simp
          try (with_reducible rfl)
        try simp only [Act.put, List.setIfInBounds_toArray, List.set_cons_zero, List.set_cons_succ]
        refine wpAnyH_take (i := 2) (v := ?_) rfl (by kernel_rfl) (by kernel_rfl) (by kernel_rfl) (fun _ _ _ h => h) (Or.inl ⟨by kernel_rfl, ?_⟩) hH0 ?_
        rotate_left
        · intro w hSw
          try dsimp only at hSw
          go_simp
          try (with_reducible rfl)
        try simp only [Act.put, List.setIfInBounds_toArray, List.set_cons_zero, List.set_cons_succ]
        refine wpAnyH_take (i := 3) (v := ?_) rfl (by kernel_rfl) (by kernel_rfl) (by kernel_rfl) (fun _ _ _ h => h) (Or.inl ⟨by kernel_rfl, ?_⟩) hH0 ?_
        rotate_left
        · intro w hSw
          try dsimp only at hSw
          go_simp
          try (with_reducible rfl)
        try simp only [Act.put, List.setIfInBounds_toArray, List.set_cons_zero, List.set_cons_succ]
        refine wpAnyH_take (i := 4) (v := ?_) rfl (by kernel_rfl) (by kernel_rfl) (by kernel_rfl) (fun _ _ _ h => h) (Or.inl ⟨by kernel_rfl, ?_⟩) hH0 ?_
        rotate_left
        · intro w hSw
          try dsimp only at hSw
          go_simp
          try (with_reducible rfl)
        try simp only [Act.put, List.setIfInBounds_toArray, List.set_cons_zero, List.set_cons_succ]
        refine wpAnyH_take (i := 5) (v := ?_) rfl (by kernel_rfl) (by kernel_rfl) (by kernel_rfl) (fun _ _ _ h => h) (Or.inl ⟨by kernel_rfl, ?_⟩) hH0 ?_
        rotate_left
        · intro w hSw
          try dsimp only at hSw
          go_simp
          try (with_reducible rfl)
        try simp only [Act.put, List.setIfInBounds_toArray, List.set_cons_zero, List.set_cons_succ]
        refine wpAnyH_ready (rs := [6]) (by kernel_rfl) (by simp) ?_
        refine AllReadyH.cons rfl (fun K hK => ?_) AllReadyH.nil
        go_simp
        refine HS.out.mono ?_
        intro e w4 hT
        rcases hT.two with ⟨_, s4, hq4, he, hT4, hK4⟩ | ⟨s4, hq4, he, hT4, hK4⟩
        · have he2 : e = .returned (.tuple #[]) := he
          subst he2
          rw [hq4] at HA
          have HT4 := Lib.hid hT4
          have HK4 := Lib.hid ((HKr.out.trans HKD.out).trans hK4)
          have hS4 := HSB.out w4 (HKD.out.trans hK4)
          clear he hT hT4 hK4 hq4
          refine hK.out _ _ hS4 (fun hH1 => ?_)
          clear hK K
          try simp only [Act.put, List.setIfInBounds_toArray, List.set_cons_zero, List.set_cons_succ]
          refine wpAnyH_done (by kernel_rfl) ?_ _
          go_wp2_with fail
          go_roundw
          case rel => exact ⟨k + 1, _, _, by omega, rfl, by go_num, HT4, HK4, Lib.hid HA.out.symm⟩
          case measure => simp [intOf]; omega
        · subst he
          rw [hq4] at HA
          have HT4 := Lib.hid hT4
          have HK4 := Lib.hid ((HKr.out.trans HKD.out).trans hK4)
          clear hT hT4 hK4 hK hq4
          dsimp only
          clear K
          go_wp2_with fail
          exact ⟨rfl, TPost.none HA.out ⟨rfl, HT4.out, HK4.out⟩⟩
    · obtain rfl : k = n := by omega
      have HA := Lib.hid (HDr.out.symm.trans (HEND.out sum s'))
      clear hlt
      go_wp2_with fail
      go_ret
      exact TPost.some HA.out ⟨rfl, HTr.out, HKr.out⟩

end Go.Proofs.Ytpandnodeldbjaa
