/-
  HistTells' walk.
-/
import Derived.Test.YtpefcbmmbpcalaaAlive19
import Derived.Test.YtpefcbmmbpcalaaStill
import Derived.Deep.DeepCutAuto
import Derived.BigQuiet
set_option linter.unusedVariables false
set_option linter.unusedSimpArgs false
namespace Go.Proofs.Ytpefcbmmbpcalaa
open Go.RowKit

theorem only_at {l : List OpD} {b : Bool} {n : Nat} (h : n < l.length) (hb : (l.getD n op0).wr = b) : (onlyL (l.take n) b).length < (onlyL l b).length ∧ (onlyL l b).getD (onlyL (l.take n) b).length op0 = l.getD n op0 := by
  have e0 : l.getD n op0 = l[n] := by rw [List.getD_eq_getElem?_getD, List.getElem?_eq_getElem h]; rfl
  have e : onlyL l b = onlyL (l.take n) b ++ l[n] :: onlyL (l.drop (n + 1)) b := by
    have h1 : l = l.take n ++ l[n] :: l.drop (n + 1) := by rw [← List.drop_eq_getElem_cons h, List.take_append_drop]
    have h2 : (l[n].wr == b) = true := by rw [← e0, hb]; simp
    unfold onlyL
    calc l.filter (fun o => o.wr == b) = (l.take n ++ l[n] :: l.drop (n + 1)).filter (fun o => o.wr == b) := by rw [← h1]
      _ = _ := by rw [List.filter_append, List.filter_cons_of_pos (p := fun (o : OpD) => o.wr == b) (a := l[n]) (l := l.drop (n + 1)) h2]
  rw [e, e0]
  refine ⟨by simp, ?_⟩
  rw [List.getD_eq_getElem?_getD, List.getElem?_append_right (Nat.le_refl _), Nat.sub_self]; rfl
theorem only_sum (l : List OpD) : (onlyL l true).length + (onlyL l false).length = l.length := by
  induction l with
  | nil => rfl
  | cons o l ih =>
    have e : ∀ b, onlyL (o :: l) b = if (o.wr == b) = true then o :: onlyL l b else onlyL l b := fun b => by unfold onlyL; rw [List.filter_cons]
    rw [e, e]
    cases o.wr
    · rw [if_neg (by simp), if_pos (by simp), List.length_cons, List.length_cons]; omega
    · rw [if_pos (by simp), if_neg (by simp), List.length_cons, List.length_cons]; omega
theorem only_zero (l : List OpD) (b : Bool) : (onlyL (l.take 0) b).length = 0 := rfl
theorem only_no {l : List OpD} {b : Bool} {n : Nat} (h : n < l.length) (hb : (l.getD n op0).wr = !b) : (onlyL (l.take (n + 1)) b).length = (onlyL (l.take n) b).length := by
  rw [onlyL_take l b n h, hb]; cases b <;> rfl
theorem only_yes {l : List OpD} {b : Bool} {n : Nat} (h : n < l.length) (hb : (l.getD n op0).wr = b) : (onlyL (l.take (n + 1)) b).length = (onlyL (l.take n) b).length + 1 := by
  rw [onlyL_take l b n h, hb]; simp

set_option maxRecDepth 10000 in
set_option maxHeartbeats 4000000 in
theorem histTells_any (l : List OpD) (A : Option Addr) (c : Nat) (a b : OpD) (w : World) (hlen : l.length ≤ 9223372036854775807) (hr : OpRow w A l) :
    Calls Try.prog 3 #[.slice A l.length c, oagg a, oagg b] w fun e w' => e = .returned (.bool true) ∧ Up w w' := by
  have HAL := Lib.hid (fun W => alive19_any W)
  obtain ⟨hx, hy⟩ := heap_two w (.cells #[.int .i64 a.frm, .int .i64 a.to, .bool a.wr, .int .i64 a.val, .int .i64 a.thr] 24) (.cells #[.int .i64 b.frm, .int .i64 b.to, .bool b.wr, .int .i64 b.val, .int .i64 b.thr] 24)
  have hu : Up w ((w.alloc (.cells #[.int .i64 a.frm, .int .i64 a.to, .bool a.wr, .int .i64 a.val, .int .i64 a.thr] 24)).alloc (.cells #[.int .i64 b.frm, .int .i64 b.to, .bool b.wr, .int .i64 b.val, .int .i64 b.thr] 24)) := ((Up.refl w).alloc _).alloc _
  obtain ⟨W0, hW0⟩ : ∃ W0, W0 = ((w.alloc (.cells #[.int .i64 a.frm, .int .i64 a.to, .bool a.wr, .int .i64 a.val, .int .i64 a.thr] 24)).alloc (.cells #[.int .i64 b.frm, .int .i64 b.to, .bool b.wr, .int .i64 b.val, .int .i64 b.thr] 24)) := ⟨_, rfl⟩
  rw [← hW0] at hx hy hu
  have HX := Lib.hid hx
  have HY := Lib.hid hy
  have HU := Lib.hid hu
  have HW := Lib.hid hW0
  have HR := Lib.hid (hr.up hu)
  clear hx hy hu hW0 hr
  unfold oagg
  by_cases h100 : l.length ≤ 100
  · have hl100 : (l.length : Int) ≤ 100 := by omega
    have HT := Lib.hid (only_any l A c true W0 (by omega) HR.out)
    have HF := Lib.hid (fun W (u : Up W0 W) => only_any l A c false W (by omega) (HR.out.up u))
    have HSM := Lib.hid (only_sum l)
    have HAT := Lib.hid (fun b n (h : n < l.length) (hb : (l.getD n op0).wr = b) => only_at h hb)
    have HNO := Lib.hid (fun b n (h : n < l.length) (hb : (l.getD n op0).wr = !b) => only_no h hb)
    have HYE := Lib.hid (fun b n (h : n < l.length) (hb : (l.getD n op0).wr = b) => only_yes h hb)
    have HZE := Lib.hid (fun b => only_zero l b)
    have HC1 := Lib.hid (fun W (u : Up W0 W) => fine_any l A c W (by omega) (HR.out.up u))
    have HC2 := Lib.hid (fun W (u : Up W0 W) => rfine_any l A c W (by omega) (HR.out.up u))
    have HC3 := Lib.hid (fun W => ahead_any a b W)
    have HC4 := Lib.hid (fun W => rahead_any a b W)
    have HC5 := Lib.hid (fun W => rahead_any b a W)
    have HC6 := Lib.hid (fun W => both_any a b W)
    have HBO : Hid (bothB a b = (!aheadB a b && !aheadB b a)) := Lib.hid rfl
    clear h100
    go_enter Try.func3, Try.ntmps3
    go_wp2_with fail
    rw [← HW.out]
    clear HW
    refine HT.out.mono ?_
    rintro e w1 ⟨v1, rfl, ho1, hu1⟩
    obtain ⟨A1, c1, rfl, hr1⟩ := OwnO.row ho1
    have HR1 := Lib.hid hr1
    have HU1 := Lib.hid hu1
    clear ho1 hr1 hu1 HT
    go_wp2_with fail
    refine (HF.out _ HU1.out).mono ?_
    rintro e w2 ⟨v2, rfl, ho2, hu2⟩
    obtain ⟨A2, c2, rfl, hr2⟩ := OwnO.row ho2
    have HR2 := Lib.hid hr2
    have HR1B := Lib.hid (HR1.out.up hu2)
    have HU2 := Lib.hid (HU1.out.trans hu2)
    have HR0 := Lib.hid (HR.out.up HU2.out)
    have hsum : wrap64 (((onlyL l true).length : Int) + ((onlyL l false).length : Int)) = (l.length : Int) := by rw [IntWalk.wrap64_in _ (by have := HSM.out; omega)]; have := HSM.out; omega
    have hsum2 : IntKind.i64.wrap (((onlyL l true).length : Int) + ((onlyL l false).length : Int)) = (l.length : Int) := by rw [IntWalk.i64_in _ (by have := HSM.out; omega)]; have := HSM.out; omega
    clear ho2 hr2 hu2 HF HR1
    go_wp2_with fail
    go_loopw [9, 10, 11] (fun x y z wr => ∃ n : Nat, n ≤ l.length ∧ z = .int .i64 n ∧ x = .int .i64 ((onlyL (l.take n) true).length : Int) ∧ y = .int .i64 ((onlyL (l.take n) false).length : Int) ∧ Hid (Up w2 wr)) (fun _ _ z _ => l.length - (intOf z).toNat)
    case atStart => exact ⟨0, by omega, rfl, rfl, rfl, Lib.hid (Up.refl _)⟩
    case round =>
      obtain ⟨n, hn, rfl, rfl, rfl, HV⟩ := hrel
      by_cases hlt : n < l.length
      · have hni : (n : Int) < l.length := by omega
        have hn0 : (0 : Int) ≤ n := by omega
        obtain ⟨bk, off, eA, x0, x1, x2, x3, x4⟩ := HR0.out.up HV.out n hlt
        subst eA
        have hlw : (onlyL l true).length ≤ 100 := by have := HSM.out; omega
        have hlf : (onlyL l false).length ≤ 100 := by have := HSM.out; omega
        cases hwr : (l.getD n op0).wr
        · obtain ⟨hk1, hk2⟩ := HAT.out false n hlt hwr
          have e1 := HYE.out false n hlt hwr
          have e2 := HNO.out true n hlt (by rw [hwr]; rfl)
          obtain ⟨b2, o2, eB, y0, y1, y2, y3, y4⟩ := HR2.out.up HV.out _ hk1
          subst eB
          rw [hk2] at y0 y1 y2 y3 y4
          have HE1 := Lib.hid e1
          have HE2 := Lib.hid e2
          have hne := neq_is (l.getD n op0) (l.getD n op0)
          rw [eqO_is.2 rfl] at hne
          have hki : ((onlyL (l.take n) false).length : Int) < ((onlyL l false).length : Int) := by omega
          have hk0 : (0 : Int) ≤ ((onlyL (l.take n) false).length : Int) := by omega
          have hkd : decide (((onlyL l false).length : Int) ≤ ((onlyL (l.take n) false).length : Int)) = false := decide_eq_false (by omega)
          have hkw : wrap64 (((onlyL (l.take n) false).length : Int) + 1) = (((onlyL (l.take n) false).length + 1 : Nat) : Int) := by rw [IntWalk.wrap64_in _ (by omega)]; omega
          clear e1 e2 hk2
          generalize l.getD n op0 = o at *
          obtain ⟨F, T, Wr, V, Th⟩ := o
          unfold oagg at hne
          dsimp only at x0 x1 x2 x3 x4 y0 y1 y2 y3 y4 hne hwr
          subst hwr
          go_wp2_with fail
          go_quiet (fail)
          go_wp2_with fail
          go_roundw
          case rel => exact ⟨n + 1, by omega, by go_num, by rw [HE2.out], by rw [HE1.out]; rfl, Lib.hid (below_drewN HV.out _)⟩
          case measure => simp [intOf]; omega
        · obtain ⟨hk1, hk2⟩ := HAT.out true n hlt hwr
          have e1 := HYE.out true n hlt hwr
          have e2 := HNO.out false n hlt (by rw [hwr]; rfl)
          obtain ⟨b2, o2, eB, y0, y1, y2, y3, y4⟩ := HR1B.out.up HV.out _ hk1
          subst eB
          rw [hk2] at y0 y1 y2 y3 y4
          have HE1 := Lib.hid e1
          have HE2 := Lib.hid e2
          have hne := neq_is (l.getD n op0) (l.getD n op0)
          rw [eqO_is.2 rfl] at hne
          have hki : ((onlyL (l.take n) true).length : Int) < ((onlyL l true).length : Int) := by omega
          have hk0 : (0 : Int) ≤ ((onlyL (l.take n) true).length : Int) := by omega
          have hkd : decide (((onlyL l true).length : Int) ≤ ((onlyL (l.take n) true).length : Int)) = false := decide_eq_false (by omega)
          have hkw : wrap64 (((onlyL (l.take n) true).length : Int) + 1) = (((onlyL (l.take n) true).length + 1 : Nat) : Int) := by rw [IntWalk.wrap64_in _ (by omega)]; omega
          clear e1 e2 hk2
          generalize l.getD n op0 = o at *
          obtain ⟨F, T, Wr, V, Th⟩ := o
          unfold oagg at hne
          dsimp only at x0 x1 x2 x3 x4 y0 y1 y2 y3 y4 hne hwr
          subst hwr
          go_wp2_with fail
          go_quiet (fail)
          go_wp2_with fail
          go_roundw
          case rel => exact ⟨n + 1, by omega, by go_num, by rw [HE1.out]; rfl, by rw [HE2.out], Lib.hid (below_drewN HV.out _)⟩
          case measure => simp [intOf]; omega
      · obtain rfl : n = l.length := by omega
        clear hlt
        have HVN := Lib.hid (HU2.out.trans HV.out)
        have HXN := Lib.hid (box_up HX.out HVN.out)
        have HYN := Lib.hid (box_up HY.out HVN.out)
        obtain ⟨x0, x1, x2, x3, x4⟩ := box_cells HXN.out
        obtain ⟨y0, y1, y2, y3, y4⟩ := box_cells HYN.out
        have c0 := upCell x0
        have c1' := upCell x1
        have c2' := upCell x2
        have c3 := upCell x3
        have c4 := upCell x4
        have d0 := upCell y0
        have d1 := upCell y1
        have d2 := upCell y2
        have d3 := upCell y3
        have d4 := upCell y4
        have HD1 := Lib.hid (fun W (u : Up wr W) => (HC1.out W (HVN.out.trans u)).mono fun e w' (h : _ ∧ _) => show _ ∧ Up wr w' from ⟨h.1, u.trans h.2⟩)
        have HD2 := Lib.hid (fun W (u : Up wr W) => (HC2.out W (HVN.out.trans u)).mono fun e w' (h : _ ∧ _) => show _ ∧ Up wr w' from ⟨h.1, u.trans h.2⟩)
        clear x0 x1 x2 x3 x4 y0 y1 y2 y3 y4 HC1 HC2 hsum hsum2
        generalize fineP l = fi at *
        generalize aheadB a b = ab at *
        generalize aheadB b a = ba at *
        generalize bothB a b = bo at *
        have hbo := HBO.out
        subst hbo
        clear HBO
        obtain ⟨F, T, Wr, V, Th⟩ := a
        obtain ⟨F2, T2, Wr2, V2, Th2⟩ := b
        unfold oagg at HC3 HC4 HC5 HC6
        dsimp only at HC3 HC4 HC5 HC6 c0 c1' c2' c3 c4 d0 d1 d2 d3 d4
        cases ab
        all_goals
          go_wp2_with fail
          refine wp_region_up (w0 := wr) (by kernel_rfl) (by kernel_rfl) (Up.refl _) ?_
          repeat (go_big_quiet_step ((first
            | (go_at_call 8; with_reducible exact callUp HD1.out _)
            | (go_at_call 9; with_reducible exact callUp HD2.out _)
            | (go_at_call 10; with_reducible exact callAbove HC3.out _)
            | (go_at_call 11; with_reducible exact callAbove HC4.out _)
            | (go_at_call 11; with_reducible exact callAbove HC5.out _)
            | (go_at_call 12; with_reducible exact callAbove HC6.out _)
            | (go_at_call 6; with_reducible exact callAbove HAL.out _))))
          refine wpQuiet_nil ?_
          rintro _ ⟨⟨wz, huz⟩, rfl⟩
          go_wp2_with fail
          go_ret
          exact ⟨rfl, HU.out.trans (HVN.out.trans huz)⟩
  · have hl100 : (100 : Int) < l.length := by omega
    have hlm : (l.length : Int) ≤ 9223372036854775807 := by omega
    clear h100 HR
    generalize l.length = n at *
    go_enter Try.func3, Try.ntmps3
    go_wp2_with fail
    rw [← HW.out]
    refine (HAL.out _).mono ?_
    rintro e w2 ⟨rfl, hu⟩
    have HUF := Lib.hid (HU.out.trans hu)
    clear hu
    go_wp2_with fail
    go_ret
    exact ⟨rfl, HUF.out⟩

end Go.Proofs.Ytpefcbmmbpcalaa
