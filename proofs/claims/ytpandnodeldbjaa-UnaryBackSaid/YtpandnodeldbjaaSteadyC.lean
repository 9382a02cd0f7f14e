/-
  The closure of SteadyPlays.
-/
import Derived.Test.YtpandnodeldbjaaSteadyP
import Derived.Test.YtpandnodeldbjaaPlays
set_option linter.unusedVariables false
set_option linter.unusedSimpArgs false
namespace Go.Proofs.Ytpandnodeldbjaa
open Go.RowKit

/-- What a closure finds in its boxes: a row, and a register. -/
def BoxesL (w : World) (p q : Nat) (A : Option Addr) (n c : Nat) (rc : Array Value) : Prop := w.heap[p]? = some (.cells #[.slice A n c] 23 (0, 0)) ∧ w.heap[q]? = some (.cells rc 50 (0, 0))
theorem BoxesL.tk {w w' : World} {g B p q : Nat} {A : Option Addr} {n c : Nat} {rc : Array Value} (h : BoxesL w p q A n c rc) (k : TK g B w w') (hp : p < g) (hq : q < g) (hg : g < B) : BoxesL w' p q A n c rc :=
  ⟨(k.block p (Array.getElem?_eq_some_iff.1 h.1).1 (by omega) (Far.low (by omega))).trans h.1, (k.block q (Array.getElem?_eq_some_iff.1 h.2).1 (by omega) (Far.low (by omega))).trans h.2⟩

set_option maxRecDepth 10000 in
set_option maxHeartbeats 1000000 in
theorem clS_any (l : List Int) (A : Option Addr) (c g B p q : Nat) (k0 b lo n0 wt rd tp : Int) (s : TS) (w : World) (hbx : BoxesL w p q A l.length c (regC k0 b lo n0 wt rd tp))
    (h : Tape1 w g B s) (hl : l.length ≤ 100) (hr : Row w A l.length (IVal l)) (hlow : ∀ b off, A = some ⟨b, off, none⟩ → 0 < l.length → b < g) (hp : p < g) (hq : q < g) :
    Calls Try.prog 28 #[.pointer (some ⟨g, 0, none⟩), .pointer (some ⟨p, 0, none⟩), .pointer (some ⟨q, 0, none⟩)] w (TPost encI g B w (stP b lo l 0 s)) := by
  have HR := Lib.hid hr
  have HLOW := Lib.hid hlow
  have HBX := Lib.hid hbx
  have HT := Lib.hid h
  have HPQ := Lib.hid (show p < g ∧ q < g from ⟨hp, hq⟩)
  have HDR := Lib.hid (fun k (hk : k < l.length) => stP_drop b lo hk)
  obtain ⟨r, hr'⟩ : ∃ r, stP b lo l 0 s = r := ⟨_, rfl⟩
  have HD0 := Lib.hid (show stP b lo (l.drop 0) 0 s = r by rw [List.drop_zero]; exact hr')
  rw [hr']
  obtain ⟨n, hn'⟩ : ∃ n, l.length = n := ⟨_, rfl⟩
  have HEND := Lib.hid (show ∀ sum s', stP b lo (l.drop n) sum s' = (some sum, s') from fun sum s' => by rw [List.drop_of_length_le (by omega)]; rfl)
  rw [hn'] at hl HLOW HDR HBX HR
  have HN := Lib.hid hn'
  clear hr' hn' h hr hlow hbx hp hq
  go_enter Try.func28, Try.ntmps28
  go_wp2_with fail
  go_loopw [5, 6] (fun u t wr => ∃ (k : Nat) (sum : Int) (s' : TS), k ≤ n ∧ u = .int .i64 sum ∧ t = .int .i64 k ∧ Hid (Tape1 wr g B s') ∧ Hid (TK g B w wr) ∧ Hid (stP b lo (l.drop k) sum s' = r)) (fun _ t _ => n - (intOf t).toNat)
  case atStart => exact ⟨0, 0, s, by omega, rfl, rfl, HT, Lib.hid (TK.refl _ _ _), HD0⟩
  case round =>
    obtain ⟨k, sum, s', hk, rfl, rfl, HTr, HKr, HDr⟩ := hrel
    have HBr := Lib.hid (HBX.out.tk HKr.out HPQ.out.1 HPQ.out.2 HTr.out.1.gB)
    have cp := cell_of_row wr _ 0 _ _ _ HBr.out.1
    simp only [List.getElem?_toArray, List.getElem?_cons_zero] at cp
    by_cases hlt : k < n
    · obtain ⟨ba, off, rfl, h1⟩ := HR.out k hlt
      have hb3 := HLOW.out ba off rfl (by omega)
      have hsame := HKr.out.block ba (cell_lt h1) (by omega) (Far.low (by have := HTr.out.1.gB; omega))
      have w1 := (tcell (o := off + k) hsame).trans h1
      have HA := Lib.hid (HDr.out.symm.trans (HDR.out k hlt sum s'))
      obtain ⟨x, hx⟩ : ∃ x, l.getD k 0 = x := ⟨_, rfl⟩
      unfold IVal at w1
      rw [hx] at w1 HA
      have cq := HBr.out.2
      have e0 := cell_of_row wr q 0 _ _ _ cq
      have e1 := cell_of_row wr q 1 _ _ _ cq
      have e2 := cell_of_row wr q 2 _ _ _ cq
      have e3 := cell_of_row wr q 3 _ _ _ cq
      have e4 := cell_of_row wr q 4 _ _ _ cq
      have e5 := cell_of_row wr q 5 _ _ _ cq
      have e6 := cell_of_row wr q 6 _ _ _ cq
      simp only [regC, List.getElem?_toArray, List.getElem?_cons_zero, List.getElem?_cons_succ] at e0 e1 e2 e3 e4 e5 e6
      have HEL := Lib.hid (fun (w' : World) (k' : TK g B wr w') => (tcell (k'.block ba (cell_lt w1) (by omega) (Far.low (by have := HTr.out.1.gB; omega)))).trans w1)
      have hki : (k : Int) < n := by omega
      have hk0 : (0 : Int) ≤ (k : Int) := by omega
      clear hx h1 hsame cq hb3 HR HLOW
      by_cases hneg : x < 0
      · unfold stepP at HA
        rw [if_pos hneg] at HA
        have h0 := steadyR_any k0 b lo n0 wt rd tp g B s' wr HTr.out
        unfold regV at h0
        have HS := Lib.hid h0
        clear h0
        by_cases hst : s'.acc.length < s'.ans.length
        · have HQ := Lib.hid (show stR b s' = (some s'.told, s'.asked (1, b, 0)) from by unfold stR; rw [if_pos hst])
          rw [HQ.out] at HA
          go_wp2_with fail
          refine HS.out.mono ?_
          intro e w4 hT
          obtain ⟨he, hT4, hK4⟩ := TPost.of_some HQ.out hT
          have he2 : e = .returned (.int .i64 s'.told) := he
          subst he2
          have HT4 := Lib.hid hT4
          have HK4 := Lib.hid (HKr.out.trans hK4)
          clear he hT hT4 hK4
          go_wp2_with fail
          go_roundw
          case rel => exact ⟨k + 1, _, _, by omega, rfl, by go_num, HT4, HK4, Lib.hid HA.out.symm⟩
          case measure => simp [intOf]; omega
        · have HQ := Lib.hid (show stR b s' = (none, s'.asked (1, b, 0)) from by unfold stR; rw [if_neg hst])
          rw [HQ.out] at HA
          go_wp2_with fail
          refine HS.out.mono ?_
          intro e w4 hT
          obtain ⟨rfl, hT4, hK4⟩ := TPost.of_none HQ.out hT
          have HT4 := Lib.hid hT4
          have HK4 := Lib.hid (HKr.out.trans hK4)
          clear hT hT4 hK4
          go_wp2_with fail
          exact ⟨rfl, TPost.none HA.out ⟨rfl, HT4.out, HK4.out⟩⟩
      · unfold stepP at HA
        rw [if_neg hneg] at HA
        have h0 := steadyW_any k0 b lo n0 wt rd tp x g B s' wr.drew (HTr.out.up (Up.refl wr).drew)
        unfold regV at h0
        have HS := Lib.hid h0
        clear h0
        have HKD := Lib.hid (TK.ofUp (g := g) (B := B) (Up.refl wr).drew)
        have S0 : wr.cell? ⟨p, 0, none⟩ = some (.slice (some ⟨ba, off, none⟩) n c) ∧ wr.cell? ⟨ba, off + k, none⟩ = some (.int .i64 x) ∧ wr.cell? ⟨q, 0, none⟩ = some (.int .i64 k0) ∧ wr.cell? ⟨q, 1, none⟩ = some (.int .i64 b) ∧ wr.cell? ⟨q, 2, none⟩ = some (.int .i64 lo) ∧ wr.cell? ⟨q, 3, none⟩ = some (.int .i64 n0) ∧ wr.cell? ⟨q, 4, none⟩ = some (.int .i64 wt) ∧ wr.cell? ⟨q, 5, none⟩ = some (.int .i64 rd) ∧ wr.cell? ⟨q, 6, none⟩ = some (.int .i64 tp) := ⟨cp, w1, e0, e1, e2, e3, e4, e5, e6⟩
        have HSB := Lib.hid (fun (w' : World) (k' : TK g B wr w') => show w'.cell? ⟨p, 0, none⟩ = some (.slice (some ⟨ba, off, none⟩) n c) ∧ w'.cell? ⟨ba, off + k, none⟩ = some (.int .i64 x) ∧ w'.cell? ⟨q, 0, none⟩ = some (.int .i64 k0) ∧ w'.cell? ⟨q, 1, none⟩ = some (.int .i64 b) ∧ w'.cell? ⟨q, 2, none⟩ = some (.int .i64 lo) ∧ w'.cell? ⟨q, 3, none⟩ = some (.int .i64 n0) ∧ w'.cell? ⟨q, 4, none⟩ = some (.int .i64 wt) ∧ w'.cell? ⟨q, 5, none⟩ = some (.int .i64 rd) ∧ w'.cell? ⟨q, 6, none⟩ = some (.int .i64 tp) from
          have hb := HBr.out.tk k' HPQ.out.1 HPQ.out.2 HTr.out.1.gB
          ⟨cell_of_row w' p 0 _ _ _ hb.1, HEL.out w' k', cell_of_row w' q 0 _ _ _ hb.2, cell_of_row w' q 1 _ _ _ hb.2, cell_of_row w' q 2 _ _ _ hb.2, cell_of_row w' q 3 _ _ _ hb.2, cell_of_row w' q 4 _ _ _ hb.2, cell_of_row w' q 5 _ _ _ hb.2, cell_of_row w' q 6 _ _ _ hb.2⟩)
        have HSUM := Lib.hid (show (stW b lo x s').1 = none ∨ (stW b lo x s').1 = some () from by cases (stW b lo x s').1 with | none => exact .inl rfl | some u => exact .inr rfl)
        obtain ⟨⟨qo, s2⟩, hq2⟩ : ∃ y, stW b lo x s' = y := ⟨_, rfl⟩
        rw [hq2] at HS HA HSUM
        have HQ := Lib.hid hq2
        clear hq2
        rcases HSUM.out with hqo | hqo
        all_goals
          simp only at hqo
          subst hqo
          go_wp2_with fail
          clear cp w1 e0 e1 e2 e3 e4 e5 e6
          refine wp_region_held_drew (S := fun w' => w'.cell? ⟨p, 0, none⟩ = some (.slice (some ⟨ba, off, none⟩) n c) ∧ w'.cell? ⟨ba, off + k, none⟩ = some (.int .i64 x) ∧ w'.cell? ⟨q, 0, none⟩ = some (.int .i64 k0) ∧ w'.cell? ⟨q, 1, none⟩ = some (.int .i64 b) ∧ w'.cell? ⟨q, 2, none⟩ = some (.int .i64 lo) ∧ w'.cell? ⟨q, 3, none⟩ = some (.int .i64 n0) ∧ w'.cell? ⟨q, 4, none⟩ = some (.int .i64 wt) ∧ w'.cell? ⟨q, 5, none⟩ = some (.int .i64 rd) ∧ w'.cell? ⟨q, 6, none⟩ = some (.int .i64 tp)) (by kernel_rfl) S0 (fun hH0 => ?_)
          refine wpAnyH_take (i := 0) (v := ?_) rfl (by kernel_rfl) (by kernel_rfl) (by kernel_rfl) (fun _ _ _ h => h) (Or.inl ⟨by kernel_rfl, ?_⟩) hH0 ?_
          rotate_left
          · intro w hSw
            try dsimp only at hSw
            go_simp
            try (with_reducible rfl)
          try simp only [Act.put, List.setIfInBounds_toArray, List.set_cons_zero, List.set_cons_succ]
          refine wpAnyH_take (i := 1) (v := ?_) rfl (by kernel_rfl) (by kernel_rfl) (by kernel_rfl) (fun _ _ _ h => h) (Or.inl ⟨by kernel_rfl, ?_⟩) hH0 ?_
          rotate_left
          · intro w hSw
            try dsimp only at hSw
            go_simp
            try (with_reducible rfl)
          try simp only [Act.put, List.setIfInBounds_toArray, List.set_cons_zero, List.set_cons_succ]
          refine wpAnyH_take (i := 2) (v := ?_) rfl (by kernel_rfl) (by kernel_rfl) (by kernel_rfl) (fun _ _ _ h => h) (Or.inl ⟨by kernel_rfl, ?_⟩) hH0 ?_
          rotate_left
          · intro w hSw
            try dsimp only at hSw
            go_simp
            try (with_reducible rfl)
          try simp only [Act.put, List.setIfInBounds_toArray, List.set_cons_zero, List.set_cons_succ]
          refine wpAnyH_take (i := 3) (v := ?_) rfl (by kernel_rfl) (by kernel_rfl) (by kernel_rfl) (fun _ _ _ h => h) (Or.inl ⟨by kernel_rfl, ?_⟩) hH0 ?_
          rotate_left
          · intro w hSw
            try dsimp only at hSw
            go_simp
            try (with_reducible rfl)
          try simp only [Act.put, List.setIfInBounds_toArray, List.set_cons_zero, List.set_cons_succ]
          refine wpAnyH_take (i := 4) (v := ?_) rfl (by kernel_rfl) (by kernel_rfl) (by kernel_rfl) (fun _ _ _ h => h) (Or.inl ⟨by kernel_rfl, ?_⟩) hH0 ?_
          rotate_left
          · intro w hSw
            try dsimp only at hSw
            go_simp
            try (with_reducible rfl)
          try simp only [Act.put, List.setIfInBounds_toArray, List.set_cons_zero, List.set_cons_succ]
          refine wpAnyH_take (i := 5) (v := ?_) rfl (by kernel_rfl) (by kernel_rfl) (by kernel_rfl) (fun _ _ _ h => h) (Or.inl ⟨by kernel_rfl, ?_⟩) hH0 ?_
          rotate_left
          · intro w hSw
            try dsimp only at hSw
            go_simp
            try (with_reducible rfl)
          try simp only [Act.put, List.setIfInBounds_toArray, List.set_cons_zero, List.set_cons_succ]
          refine wpAnyH_ready (rs := [6]) (by kernel_rfl) (by simp) ?_
          refine AllReadyH.cons rfl (fun K hK => ?_) AllReadyH.nil
          go_simp
          refine HS.out.mono ?_
          intro e w4 hT
        · obtain ⟨rfl, hT4, hK4⟩ := TPost.of_none rfl hT
          have HT4 := Lib.hid hT4
          have HK4 := Lib.hid ((HKr.out.trans HKD.out).trans hK4)
          clear hT hT4 hK4 hK
          dsimp only
          clear K
          go_wp2_with fail
          exact ⟨rfl, TPost.none HA.out ⟨rfl, HT4.out, HK4.out⟩⟩
        · obtain ⟨he, hT4, hK4⟩ := TPost.of_some rfl hT
          have he2 : e = .returned (.tuple #[]) := he
          subst he2
          have HT4 := Lib.hid hT4
          have HK4 := Lib.hid ((HKr.out.trans HKD.out).trans hK4)
          have hS4 := HSB.out w4 (HKD.out.trans hK4)
          clear he hT hT4 hK4
          refine hK.out _ _ hS4 (fun hH1 => ?_)
          clear hK K
          try simp only [Act.put, List.setIfInBounds_toArray, List.set_cons_zero, List.set_cons_succ]
          refine wpAnyH_done (by kernel_rfl) ?_ _
          go_wp2_with fail
          go_roundw
          case rel => exact ⟨k + 1, _, _, by omega, rfl, by go_num, HT4, HK4, Lib.hid HA.out.symm⟩
          case measure => simp [intOf]; omega
    · obtain rfl : k = n := by omega
      have HA := Lib.hid (HDr.out.symm.trans (HEND.out sum s'))
      clear hlt
      go_wp2_with fail
      go_ret
      exact TPost.some HA.out ⟨rfl, HTr.out, HKr.out⟩

end Go.Proofs.Ytpandnodeldbjaa
