/-
  The walk of UnaryPlays.
-/
import Derived.Test.YtpandnodeldbjaaAlive12
import Derived.Test.YtpandnodeldbjaaUnaryC
import Derived.Test.YtpandnodeldbjaaSteadyW
set_option linter.unusedVariables false
set_option linter.unusedSimpArgs false
namespace Go.Proofs.Ytpandnodeldbjaa
open Go.RowKit

theorem play_unary (l loc ans : List Int) (A A0 A1 : Option Addr) (c c0 c1 p q : Nat) (k0 b lo n0 wt rd tp : Int) (w : World) (hbx : BoxesL w p q A l.length c (regC k0 b lo n0 wt rd tp))
    (hb0 : -1099511627776 ≤ b) (hb1 : b ≤ 1099511627776) (hl2 : -1099511627776 ≤ lo) (hl3 : lo ≤ 1099511627776)
    (hl : l.length ≤ 100) (hr : Row w A l.length (IVal l)) (hA0 : A0 = none → c0 = 0) (hl0 : loc.length ≤ 3000) (hl1 : ans.length ≤ 3000)
    (hr0 : Row w A0 loc.length (IVal loc)) (hr1 : Row w A1 ans.length (IVal ans)) (hc0 : loc.length ≤ c0) :
    Calls Try.prog 15 #[.func (.func 35) #[] #[.pointer (some ⟨p, 0, none⟩), .pointer (some ⟨q, 0, none⟩)], .slice A0 loc.length c0, .slice A1 ans.length c1] w fun e w' =>
      ∃ ov, e = .returned (.tuple #[.int .i64 (((rowOp 300 (unR b tp) (unW b lo tp) l 0).onT ⟨ans, loc, [], []⟩).1.getD 0), ov]) ∧ OutIs w' ov ((rowOp 300 (unR b tp) (unW b lo tp) l 0).onT ⟨ans, loc, [], []⟩).1.isSome ((rowOp 300 (unR b tp) (unW b lo tp) l 0).onT ⟨ans, loc, [], []⟩).2 ∧ Up w w' :=
  playI 35 #[.pointer (some ⟨p, 0, none⟩), .pointer (some ⟨q, 0, none⟩)] (fun s => (rowOp 300 (unR b tp) (unW b lo tp) l 0).onT s) loc ans A0 A1 c0 c1 w hA0 hl0 hl1 hr0 hr1 hc0 (fun args W => enters Try.func35 (by kernel_rfl) rfl args W)
    (fun W g B hU hg h => clUnary_any l A c g B p q k0 b lo n0 wt rd tp _ W (hbx.up hU) hb0 hb1 hl2 hl3 h hl (hr.up hU) (fun b off e h0 => by
      obtain ⟨b', off', e', h1⟩ := hr 0 h0
      rw [e] at e'
      simp only [Option.some.injEq, Addr.mk.injEq] at e'
      have := cell_lt h1
      omega) (by have := (Array.getElem?_eq_some_iff.1 hbx.1).1; omega) (by have := (Array.getElem?_eq_some_iff.1 hbx.2).1; omega))
theorem unary_len (b lo tp : Int) (l loc ans : List Int) (hl : ans.length ≤ 3000) (hl0 : loc.length ≤ 3000) : ((rowOp 300 (unR b tp) (unW b lo tp) l 0).onT ⟨ans, loc, [], []⟩).2.acc.length ≤ 1000000000 ∧ ((rowOp 300 (unR b tp) (unW b lo tp) l 0).onT ⟨ans, loc, [], []⟩).2.nts.length ≤ 1000000000 ∧ (shortL ((rowOp 300 (unR b tp) (unW b lo tp) l 0).onT ⟨ans, loc, [], []⟩).2.loc).length ≤ 1000000000 := by
  obtain ⟨h1, _, h3⟩ := op_len (rowOp 300 (unR b tp) (unW b lo tp) l 0) ⟨ans, loc, [], []⟩ (Nat.zero_le _)
  have h2 := op_few (rowOp 300 (unR b tp) (unW b lo tp) l 0) 0 ⟨ans, loc, [], []⟩ (rowOp_few _ _ _ (unR_few b tp) (fun x => unW_few b lo tp x) l 0)
  have h4 := shortLen_le ((rowOp 300 (unR b tp) (unW b lo tp) l 0).onT ⟨ans, loc, [], []⟩).2.loc ((rowOp 300 (unR b tp) (unW b lo tp) l 0).onT ⟨ans, loc, [], []⟩).2.loc.length
  rw [← shortL_length] at h4
  simp only [List.length_nil] at h1 h2 h3
  exact ⟨by omega, by omega, by omega⟩
theorem unary_meets (b lo tp : Int) (l loc ans : List Int) : Meets ((rowOp 300 (unR b tp) (unW b lo tp) l 0).onT ⟨ans, loc, [], []⟩) ((rrowOp 300 (unR b tp) (unW b lo tp) l 0).onR ⟨⟨ans, loc, [], []⟩, false⟩) := by
  rw [← rrow_onT 300 (unR b tp) (unR b tp) (unW b lo tp) (unW b lo tp) (fun s => rfl) (fun x s => rfl) l 0]
  have h := op_meets (rrowOp 300 (unR b tp) (unW b lo tp) l 0) ⟨ans, loc, [], []⟩ ⟨⟨ans, loc, [], []⟩, false⟩ ⟨rfl, rfl, rfl, fun _ => rfl⟩ rfl
  revert h
  generalize (rrowOp 300 (unR b tp) (unW b lo tp) l 0).onT ⟨ans, loc, [], []⟩ = x
  generalize (rrowOp 300 (unR b tp) (unW b lo tp) l 0).onR ⟨⟨ans, loc, [], []⟩, false⟩ = y
  obtain ⟨xo, s'⟩ := x
  cases xo <;> exact id

set_option maxRecDepth 10000 in
set_option maxHeartbeats 2000000 in
theorem unaryPlays_any (l loc ans : List Int) (A A0 A1 : Option Addr) (c c0 c1 : Nat) (k0 b lo n0 wt rd tp : Int) (w : World) (hA : l.length ≤ 9223372036854775807) (hB : loc.length ≤ 9223372036854775807) (hC : ans.length ≤ 9223372036854775807)
    (hr : Row w A l.length (IVal l)) (hr0 : Row w A0 loc.length (IVal loc)) (hr1 : Row w A1 ans.length (IVal ans)) :
    Calls Try.prog 7 #[.agg #[.int .i64 k0, .int .i64 b, .int .i64 lo, .int .i64 n0, .int .i64 wt, .int .i64 rd, .int .i64 tp], .slice A l.length c, .slice A0 loc.length c0, .slice A1 ans.length c1] w fun e w' => e = .returned (.bool true) ∧ Up w w' := by
  have HAL := Lib.hid (fun W : World => alive12_any W)
  obtain ⟨W0, hW0⟩ : ∃ x, w.alloc (.cells #[.int .i64 k0, .int .i64 b, .int .i64 lo, .int .i64 n0, .int .i64 wt, .int .i64 rd, .int .i64 tp] 50) = x := ⟨_, rfl⟩
  have hb0 : W0.heap[w.heap.size]? = some (.cells (regC k0 b lo n0 wt rd tp) 50 (0, 0)) := by rw [← hW0]; exact heap_alloc_new w _
  have hs0 : W0.heap.size = w.heap.size + 1 := by rw [← hW0]; simp
  have hU0 : Up w W0 := by rw [← hW0]; exact (Up.refl w).alloc _
  have hU1 : Up W0 (W0.alloc (.cells #[.slice A l.length c] 23)) := (Up.refl W0).alloc _
  have hb1 := heap_alloc_new W0 (.cells #[.slice A l.length c] 23)
  rw [hs0] at hb1
  have HBX := Lib.hid (show BoxesL (W0.alloc (.cells #[.slice A l.length c] 23)) (w.heap.size + 1) w.heap.size A l.length c (regC k0 b lo n0 wt rd tp) from ⟨hb1, (hU1.block _ (Array.getElem?_eq_some_iff.1 hb0).1).trans hb0⟩)
  have HU1 := Lib.hid (hU0.trans hU1)
  obtain ⟨a0, a1, a2, a3, a4, a5, a6⟩ := reg_load HBX.out.2
  have a7 := cell_of_row _ _ 0 _ _ _ HBX.out.1
  simp only [List.getElem?_toArray, List.getElem?_cons_zero] at a7
  clear hb0 hb1 hU0 hU1 hs0
  subst hW0
  by_cases hs : l.length ≤ 12 ∧ loc.length ≤ 300 ∧ ans.length ≤ 600 ∧ (-1099511627776 ≤ b ∧ b ≤ 1099511627776) ∧ -1099511627776 ≤ lo ∧ lo ≤ 1099511627776
  · obtain ⟨hs1, hs2, hs3, ⟨hb1, hb2⟩, hl1, hl2⟩ := hs
    have HT0 := Lib.hid (fun (W : World) (hr : Row W A0 loc.length (IVal loc)) => tame_any loc A0 c0 2199023255552 W (by omega) hr)
    have HT1 := Lib.hid (fun (W : World) (hr : Row W A1 ans.length (IVal ans)) => tame_any ans A1 c1 3 W (by omega) hr)
    have HR := Lib.hid hr
    have HR0 := Lib.hid hr0
    have HR1 := Lib.hid hr1
    have z1 : ((12 : Int) < (l.length : Int)) = False := by simp; omega
    have z2 : ((300 : Int) < (loc.length : Int)) = False := by simp; omega
    have z3 : ((600 : Int) < (ans.length : Int)) = False := by simp; omega
    have z4 : (b < -1099511627776) = False := by simp; omega
    have z5 : (1099511627776 < b) = False := by simp; omega
    have z6 : (lo < -1099511627776) = False := by simp; omega
    have z7 : (1099511627776 < lo) = False := by simp; omega
    have HBD := Lib.hid (show -1099511627776 ≤ b ∧ b ≤ 1099511627776 ∧ -1099511627776 ≤ lo ∧ lo ≤ 1099511627776 from ⟨hb1, hb2, hl1, hl2⟩)
    have HRC := Lib.hid (fun h B r W hT => runaryR_any k0 b lo n0 wt rd tp h B r W hT hb1 hb2 hl1 hl2)
    have HWC := Lib.hid (fun v h B r W hT => runaryW_any k0 b lo n0 wt rd tp v h B r W hT hb1 hb2 hl1 hl2)
    clear hr hr0 hr1
    go_enter Try.func7, Try.ntmps7
    go_wp2_with fail
    refine (HT0.out _ (HR0.out.up HU1.out)).mono ?_
    rintro e w1 ⟨B0, d0, rfl, r0, hd0, hn0, hU1⟩
    have HB1 := Lib.hid (HBX.out.up hU1)
    have HU2 := Lib.hid (HU1.out.trans hU1)
    obtain ⟨loc', hloc⟩ : ∃ x, tameL loc 2199023255552 = x := ⟨_, rfl⟩
    have hll : loc'.length = loc.length := by rw [← hloc, tameL_len]
    rw [hloc] at r0
    have HD0 := Lib.hid (show Row w1 B0 loc.length (IVal loc') ∧ loc.length ≤ d0 ∧ (B0 = none → d0 = 0) from ⟨r0, hd0, hn0⟩)
    clear a0 a1 a2 a3 a4 a5 a6 a7 hU1 r0 hd0 hn0 HT0 hloc HBX HU1 hb1 hb2 hl1 hl2 z1 z2 z3 z4 z5 z6 z7
    go_wp2_with fail
    refine (HT1.out _ (HR1.out.up HU2.out)).mono ?_
    rintro e w2 ⟨B1, d1, rfl, r1, hd1, hn1, hU2⟩
    have HB2 := Lib.hid (HB1.out.up hU2)
    obtain ⟨ans', hans⟩ : ∃ x, tameL ans 3 = x := ⟨_, rfl⟩
    have hla : ans'.length = ans.length := by rw [← hans, tameL_len]
    rw [hans] at r1
    have HD1 := Lib.hid (show Row w2 B0 loc'.length (IVal loc') ∧ Row w2 B1 ans'.length (IVal ans') from ⟨hll ▸ HD0.out.1.up hU2, hla ▸ r1⟩)
    have HU3 := Lib.hid (HU2.out.trans hU2)
    have HP := Lib.hid (play_unary l loc' ans' A B0 B1 c d0 d1 (w.heap.size + 1) w.heap.size k0 b lo n0 wt rd tp w2 HB2.out HBD.out.1 HBD.out.2.1 HBD.out.2.2.1 HBD.out.2.2.2 (by omega) (HR.out.up HU3.out) HD0.out.2.2 (by omega) (by omega) HD1.out.1 HD1.out.2 (by rw [hll]; exact HD0.out.2.1))
    have HL := Lib.hid (unary_len b lo tp l loc' ans' (by omega) (by omega))
    have HM := Lib.hid (meets_same (unary_meets b lo tp l loc' ans'))
    have HNW := Lib.hid (fun (W : World) (hU : Up w2 W) => newR_any loc' ans' B0 B1 d0 d1 W HD0.out.2.2 (by omega) (by omega) (HD1.out.1.up hU) (HD1.out.2.up hU))
    rw [hll, hla] at HP HNW
    obtain ⟨P, hP⟩ : ∃ x, (rowOp 300 (unR b tp) (unW b lo tp) l 0).onT ⟨ans', loc', [], []⟩ = x := ⟨_, rfl⟩
    obtain ⟨R, hR⟩ : ∃ x, (rrowOp 300 (unR b tp) (unW b lo tp) l 0).onR ⟨⟨ans', loc', [], []⟩, false⟩ = x := ⟨_, rfl⟩
    rw [hP] at HP HL HM
    rw [hR] at HM
    obtain ⟨v, hv⟩ : ∃ x, P.1.getD 0 = x := ⟨_, rfl⟩
    rw [hv] at HP HM
    have HRR := Lib.hid hR
    clear hU2 r1 hd1 hn1 HT1 hans hP hR hv HD0 HB1 HU2 HR0 HR1
    go_wp2_with fail
    refine HP.out.mono ?_
    rintro e w3 ⟨ov, rfl, hout, hU3⟩
    have HO3 := Lib.hid hout.r
    have HB3 := Lib.hid (HB2.out.up hU3)
    have HU4 := Lib.hid hU3
    obtain ⟨X, cX, N, cN, L, cL, rfl, _⟩ := hout
    clear hU3 HP HB2
    go_wp2_with fail
    have hbo := heap_alloc_new w3 (.cells #[.bool P.1.isSome, .slice X P.2.acc.length cX, .slice N P.2.nts.length cN, .slice L (shortL P.2.loc).length cL] 29)
    have hUo : Up w3 (w3.alloc (.cells #[.bool P.1.isSome, .slice X P.2.acc.length cX, .slice N P.2.nts.length cN, .slice L (shortL P.2.loc).length cL] 29)) := (Up.refl w3).alloc _
    obtain ⟨q, hq⟩ : ∃ q, w3.heap.size = q := ⟨_, rfl⟩
    rw [hq] at hbo ⊢
    generalize w3.alloc (.cells #[.bool P.1.isSome, .slice X P.2.acc.length cX, .slice N P.2.nts.length cN, .slice L (shortL P.2.loc).length cL] 29) = w4 at *
    have HU5 := Lib.hid (HU4.out.trans hUo)
    have HBO4 := Lib.hid hbo
    have HO4 := Lib.hid (HO3.out.up hUo)
    have HB4 := Lib.hid (HB3.out.up hUo)
    clear hbo hUo HO3 HU4 HB3 hq
    refine (HNW.out _ HU5.out).mono ?_
    rintro e w5 ⟨h, rfl, hR5, hU6⟩
    have HB5 := Lib.hid (HB4.out.up hU6)
    have HR5 := Lib.hid hR5
    have HH := Lib.hid hR5.c.hB
    have HUW := Lib.hid ((HU3.out.trans HU5.out).trans hU6)
    have HBN := Lib.hid (show w.heap.size + 1 < w4.heap.size from (Array.getElem?_eq_some_iff.1 HB4.out.1).1)
    have HRW := Lib.hid (HR.out.up HUW.out)
    have HRL := Lib.hid (show ∀ ba off, A = some ⟨ba, off, none⟩ → 0 < l.length → ba < w4.heap.size from fun ba off e h0 => by
      obtain ⟨b', off', e', h1⟩ := HR.out 0 h0
      rw [e] at e'
      simp only [Option.some.injEq, Addr.mk.injEq] at e'
      have := cell_lt h1
      have := (HU3.out.trans HU5.out).size
      omega)
    have HU6 := Lib.hid hU6
    clear hR5 hU6 HNW HB4 HR
    obtain ⟨RO, hRO⟩ : ∃ o, unR b tp = o := ⟨_, rfl⟩
    obtain ⟨WO, hWO⟩ : ∃ o, unW b lo tp = o := ⟨_, rfl⟩
    rw [hRO] at HRC
    have HWC2 := Lib.hid (fun v h B r W hT => (show Calls Try.prog 39 #[.pointer (some ⟨h, 0, none⟩), regV k0 b lo n0 wt rd tp, .int .i64 v] W (RPost (.tuple #[]) h B W ((WO v).onR r).2) by rw [← hWO]; exact HWC.out v h B r W hT))
    rw [hRO, hWO] at HRR
    clear hRO hWO HWC
    unfold regV at HRC HWC2
    have HDR := Lib.hid (fun k (hk : k < l.length) => rrowOp_drop 300 RO WO hk)
    have HD0 := Lib.hid (show (rrowOp 300 RO WO (l.drop 0) 0).onR ⟨⟨ans', loc', [], []⟩, false⟩ = R by rw [List.drop_zero]; exact HRR.out)
    obtain ⟨n, hn⟩ : ∃ n, l.length = n := ⟨_, rfl⟩
    have HEND := Lib.hid (show ∀ sum r', (rrowOp 300 RO WO (l.drop n) sum).onR r' = (sum, r') from fun sum r' => by rw [List.drop_of_length_le (by omega)]; rfl)
    rw [hn] at HDR HB5 HRW HRL hs1 ⊢
    clear hn HRR hA hB hC hs2 hs3 hll hla
    go_wp2_with fail
    go_loopw [13, 14] (fun u t wr => ∃ (k : Nat) (sum : Int) (r' : RS), k ≤ n ∧ u = .int .i64 sum ∧ t = .int .i64 k ∧ Hid (RefIs wr h w4.heap.size r') ∧ Hid (TK h w4.heap.size w5 wr) ∧ Hid ((rrowOp 300 RO WO (l.drop k) sum).onR r' = R)) (fun _ t _ => n - (intOf t).toNat)
    case atStart => exact ⟨0, 0, _, by omega, rfl, rfl, HR5, Lib.hid (TK.refl _ _ _), HD0⟩
    case round =>
      obtain ⟨k, sum, r', hk, rfl, rfl, HRr, HKr, HDr⟩ := hrel
      have HBr := Lib.hid (HB5.out.tkr HKr.out HBN.out (by have := HBN.out; omega) HH.out)
      have cp := cell_of_row wr _ 0 _ _ _ HBr.out.1
      simp only [List.getElem?_toArray, List.getElem?_cons_zero] at cp
      have cov := HRr.out.ov
      by_cases hov : r'.over = true
      · rw [hov] at cov
        obtain rfl : (sum, r') = R := (rrowOp_over 300 RO WO (l.drop k) sum r' hov).symm.trans HDr.out
        obtain ⟨hv, hsm⟩ := HM.out
        simp only [hov, if_true] at hv
        subst hv
        have HSS := Lib.hid hsm
        clear hsm HM HDr
        by_cases hlt : k < n
        all_goals
          have hU7 : Up w4 wr := HU6.out.trans' (HKr.out.below (Nat.le_refl _) HH.out HU6.out.size)
          have HU7 := Lib.hid hU7
          have hbo7 := (hU7.block _ (Array.getElem?_eq_some_iff.1 HBO4.out).1).trans HBO4.out
          have HO7 := Lib.hid (HO4.out.up hU7)
          have HBQ := Lib.hid hbo7
          have HBR := Lib.hid HBr.out.2
          have HRX := Lib.hid HRr.out
          have HSTR := Lib.hid (fun W => strips12 tp W)
          have HCL := Lib.hid (fun W => (show Calls Try.prog 41 #[.int .i64 tp, .int .i64 255] W fun e w' => e = .returned (.int .i64 (mostI tp)) ∧ w' = W by
            have := clamp_any tp 255 W
            rw [clamp255] at this
            exact this))
          have HLC := Lib.hid (fun W => locals12 tp W)
          have hm := mostI_le tp
          generalize mostI tp = mm at *
          have HMM := Lib.hid hm
          obtain ⟨g0, g1, g2, g3, g4, g5, g6⟩ := reg_load HBr.out.2
          clear hU7 hbo7 HRr HKr HBr HBO4 HO4 HB5 HRW HRL HDR HEND HD0 HBN HR5 hm
          go_wp2_with fail
          refine (HSTR.out _).mono ?_
          rintro e w8 ⟨rfl, hU8, hb8⟩
          obtain ⟨qs, hqs⟩ : ∃ x, wr.heap.size = x := ⟨_, rfl⟩
          rw [hqs] at hb8 ⊢
          clear g0 g1 g2 g3 g4 g5 g6
          have HBR8 := Lib.hid ((hU8.block _ (Array.getElem?_eq_some_iff.1 HBR.out).1).trans HBR.out)
          have hbq8 := (hU8.block _ (Array.getElem?_eq_some_iff.1 HBQ.out).1).trans HBQ.out
          have HU8 := Lib.hid hU8
          have SB := Lib.hid (fun (w' : World) (hU : Up w8 w') => show w'.cell? ⟨q, 0, none⟩ = some (.bool P.1.isSome) ∧ w'.cell? ⟨q, 1, none⟩ = some (.slice X P.2.acc.length cX) ∧ w'.cell? ⟨q, 2, none⟩ = some (.slice N P.2.nts.length cN) ∧ w'.cell? ⟨q, 3, none⟩ = some (.slice L (shortL P.2.loc).length cL) ∧ w'.cell? ⟨w.heap.size, 6, none⟩ = some (.int .i64 tp) ∧ w'.cell? ⟨qs, 0, none⟩ = some (.int .i64 (mm + 1)) ∧ w'.cell? ⟨qs, 1, none⟩ = some (.int .i64 1) ∧ w'.cell? ⟨qs, 2, none⟩ = some (.int .i64 1) from
            have hb := (hU.block _ (Array.getElem?_eq_some_iff.1 hbq8).1).trans hbq8
            have hs := (hU.block _ (Array.getElem?_eq_some_iff.1 hb8).1).trans hb8
            ⟨cell_of_row w' q 0 _ _ _ hb, cell_of_row w' q 1 _ _ _ hb, cell_of_row w' q 2 _ _ _ hb, cell_of_row w' q 3 _ _ _ hb, (reg_load ((hU.block _ (Array.getElem?_eq_some_iff.1 HBR8.out).1).trans HBR8.out)).2.2.2.2.2.2, cell_of_row w' qs 0 _ _ _ hs, cell_of_row w' qs 1 _ _ _ hs, cell_of_row w' qs 2 _ _ _ hs⟩)
          obtain ⟨g0, g1, g2, g3, g4, g5, g6⟩ := reg_load HBR8.out
          clear hU8 hb8 hbq8 hqs HBR HBQ
          go_wp2_with fail
          refine (HCL.out _).mono ?_
          rintro e w8' ⟨rfl, rfl⟩
          clear g0 g1 g2 g3 g4 g5 g6
          have hm1 : wrap64 (mm + 1) = mm + 1 := IntWalk.wrap64_in _ (by have := HMM.out; omega)
          go_wp2_with fail
          have HR7 := Lib.hid (rout_any h w4.heap.size r' w8'.drew (HRX.out.up HU8.out.drew))
          have S0 := SB.out w8'.drew (Up.refl _).drew
          have heq := eqStrip_any (mm + 1) 1 1
          clear HRX
          refine wp_region_held_drew (S := fun w' => w'.cell? ⟨q, 0, none⟩ = some (.bool P.1.isSome) ∧ w'.cell? ⟨q, 1, none⟩ = some (.slice X P.2.acc.length cX) ∧ w'.cell? ⟨q, 2, none⟩ = some (.slice N P.2.nts.length cN) ∧ w'.cell? ⟨q, 3, none⟩ = some (.slice L (shortL P.2.loc).length cL) ∧ w'.cell? ⟨w.heap.size, 6, none⟩ = some (.int .i64 tp) ∧ w'.cell? ⟨qs, 0, none⟩ = some (.int .i64 (mm + 1)) ∧ w'.cell? ⟨qs, 1, none⟩ = some (.int .i64 1) ∧ w'.cell? ⟨qs, 2, none⟩ = some (.int .i64 1)) (by kernel_rfl) S0 (fun hH0 => ?_)
          clear S0
          refine wpAnyH_take (i := 0) (v := ?_) rfl (by kernel_rfl) (by kernel_rfl) (by kernel_rfl) (fun _ _ _ h => h) (Or.inl ⟨by kernel_rfl, ?_⟩) hH0 ?_
          rotate_left
          · intro w hSw
            try dsimp only at hSw
            go_simp
            try (with_reducible rfl)
          try simp only [Act.put, List.setIfInBounds_toArray, List.set_cons_zero, List.set_cons_succ]
          refine wpAnyH_take (i := 1) (v := ?_) rfl (by kernel_rfl) (by kernel_rfl) (by kernel_rfl) (fun _ _ _ h => h) (Or.inl ⟨by kernel_rfl, ?_⟩) hH0 ?_
          rotate_left
          · intro w hSw
            try dsimp only at hSw
            go_simp
            try (with_reducible rfl)
          try simp only [Act.put, List.setIfInBounds_toArray, List.set_cons_zero, List.set_cons_succ]
          refine wpAnyH_take (i := 2) (v := ?_) rfl (by kernel_rfl) (by kernel_rfl) (by kernel_rfl) (fun _ _ _ h => h) (Or.inl ⟨by kernel_rfl, ?_⟩) hH0 ?_
          rotate_left
          · intro w hSw
            try dsimp only at hSw
            go_simp
            try (with_reducible rfl)
          try simp only [Act.put, List.setIfInBounds_toArray, List.set_cons_zero, List.set_cons_succ]
          refine wpAnyH_take (i := 3) (v := ?_) rfl (by kernel_rfl) (by kernel_rfl) (by kernel_rfl) (fun _ _ _ h => h) (Or.inl ⟨by kernel_rfl, ?_⟩) hH0 ?_
          rotate_left
          · intro w hSw
            try dsimp only at hSw
            go_simp
            try (with_reducible rfl)
          try simp only [Act.put, List.setIfInBounds_toArray, List.set_cons_zero, List.set_cons_succ]
          refine wpAnyH_take (i := 4) (v := ?_) rfl (by kernel_rfl) (by kernel_rfl) (by kernel_rfl) (fun _ _ _ h => h) (Or.inl ⟨by kernel_rfl, ?_⟩) hH0 ?_
          rotate_left
          · intro w hSw
            try dsimp only at hSw
            go_simp
            try (with_reducible rfl)
          try simp only [Act.put, List.setIfInBounds_toArray, List.set_cons_zero, List.set_cons_succ]
          refine wpAnyH_take (i := 5) (v := ?_) rfl (by kernel_rfl) (by kernel_rfl) (by kernel_rfl) (fun _ _ _ h => h) (Or.inl ⟨by kernel_rfl, ?_⟩) hH0 ?_
          rotate_left
          · intro w hSw
            try dsimp only at hSw
            go_simp
            try (with_reducible rfl)
          try simp only [Act.put, List.setIfInBounds_toArray, List.set_cons_zero, List.set_cons_succ]
          refine wpAnyH_ready (rs := [6]) (by kernel_rfl) (by simp) ?_
          refine AllReadyH.cons rfl (fun K hK => ?_) AllReadyH.nil
          go_simp
          refine HR7.out.mono ?_
          rintro e w7 ⟨ov2, rfl, hO8, hU9⟩
          have HU9 := Lib.hid ((Up.refl w8').drew.trans hU9)
          have hS7 := SB.out w7 HU9.out
          have HSM := Lib.hid (same_out (HO7.out.up (HU8.out.trans HU9.out)) hO8 HSS.out HL.out.1 HL.out.2.1 HL.out.2.2)
          clear hO8 hU9 HO7 HSS HL HR7 hH0
          refine hK.out _ _ hS7 (fun hH1 => ?_)
          clear hK K
          try simp only [Act.put, List.setIfInBounds_toArray, List.set_cons_zero, List.set_cons_succ]
          refine wpAnyH_ready (rs := [7]) (by kernel_rfl) (by simp) ?_
          refine AllReadyH.cons rfl (fun K hK => ?_) AllReadyH.nil
          go_simp
          refine HSM.out.mono ?_
          rintro e w10 ⟨rfl, hU10⟩
          have HU10 := Lib.hid (HU9.out.trans hU10)
          have hS8 := SB.out w10 HU10.out
          clear hU10 HU9 HSM hH1 hS7
          refine hK.out _ _ hS8 (fun hH2 => ?_)
          clear hK K
          try simp only [Act.put, List.setIfInBounds_toArray, List.set_cons_zero, List.set_cons_succ]
          refine wpAnyH_take (i := 8) (v := ?_) rfl (by kernel_rfl) (by kernel_rfl) (by kernel_rfl) (fun _ _ _ h => h) (Or.inl ⟨by kernel_rfl, ?_⟩) hH2 ?_
          rotate_left
          · intro w hSw
            try dsimp only at hSw
            go_simp
            try (with_reducible rfl)
          try simp only [Act.put, List.setIfInBounds_toArray, List.set_cons_zero, List.set_cons_succ]
          refine wpAnyH_take (i := 9) (v := ?_) rfl (by kernel_rfl) (by kernel_rfl) (by kernel_rfl) (fun _ _ _ h => h) (Or.inl ⟨by kernel_rfl, ?_⟩) hH2 ?_
          rotate_left
          · intro w hSw
            try dsimp only at hSw
            go_simp
            try (with_reducible rfl)
          try simp only [Act.put, List.setIfInBounds_toArray, List.set_cons_zero, List.set_cons_succ]
          refine wpAnyH_take (i := 10) (v := ?_) rfl (by kernel_rfl) (by kernel_rfl) (by kernel_rfl) (fun _ _ _ h => h) (Or.inl ⟨by kernel_rfl, ?_⟩) hH2 ?_
          rotate_left
          · intro w hSw
            try dsimp only at hSw
            go_simp
            try (with_reducible rfl)
          try simp only [Act.put, List.setIfInBounds_toArray, List.set_cons_zero, List.set_cons_succ]
          refine wpAnyH_take (i := 11) (v := ?_) rfl (by kernel_rfl) (by kernel_rfl) (by kernel_rfl) (fun _ _ _ h => h) (Or.inl ⟨by kernel_rfl, ?_⟩) hH2 ?_
          rotate_left
          · intro w hSw
            try dsimp only at hSw
            go_simp
            try (with_reducible rfl)
          try simp only [Act.put, List.setIfInBounds_toArray, List.set_cons_zero, List.set_cons_succ]
          refine wpAnyH_take (i := 12) (v := ?_) rfl (by kernel_rfl) (by kernel_rfl) (by kernel_rfl) (fun _ _ _ h => h) (Or.inl ⟨by kernel_rfl, ?_⟩) hH2 ?_
          rotate_left
          · intro w hSw
            try dsimp only at hSw
            go_simp
            try (with_reducible rfl)
          try simp only [Act.put, List.setIfInBounds_toArray, List.set_cons_zero, List.set_cons_succ]
          refine wpAnyH_take (i := 13) (v := ?_) rfl (by kernel_rfl) (by kernel_rfl) (by kernel_rfl) (fun _ _ _ h => h) (Or.inl ⟨by kernel_rfl, ?_⟩) hH2 ?_
          rotate_left
          · intro w hSw
            try dsimp only at hSw
            go_simp
            try (with_reducible rfl)
          try simp only [Act.put, List.setIfInBounds_toArray, List.set_cons_zero, List.set_cons_succ]
          refine wpAnyH_take (i := 14) (v := ?_) rfl (by kernel_rfl) (by kernel_rfl) (by kernel_rfl) (fun _ _ _ h => h) (Or.inl ⟨by kernel_rfl, ?_⟩) hH2 ?_
          rotate_left
          · intro w hSw
            try dsimp only at hSw
            go_simp
            try (with_reducible rfl)
          try simp only [Act.put, List.setIfInBounds_toArray, List.set_cons_zero, List.set_cons_succ]
          refine wpAnyH_take (i := 15) (v := ?_) rfl (by kernel_rfl) (by kernel_rfl) (by kernel_rfl) (fun _ _ _ h => h) (Or.inl ⟨by kernel_rfl, ?_⟩) hH2 ?_
          rotate_left
          · intro w hSw
            try dsimp only at hSw
            go_simp
            try (with_reducible rfl)
          try simp only [Act.put, List.setIfInBounds_toArray, List.set_cons_zero, List.set_cons_succ]
          refine wpAnyH_take (i := 16) (v := ?_) rfl (by kernel_rfl) (by kernel_rfl) (by kernel_rfl) (fun _ _ _ h => h) (Or.inl ⟨by kernel_rfl, ?_⟩) hH2 ?_
          rotate_left
          · intro w hSw
            try dsimp only at hSw
            go_simp
            try (with_reducible rfl)
          try simp only [Act.put, List.setIfInBounds_toArray, List.set_cons_zero, List.set_cons_succ]
          refine wpAnyH_take (i := 17) (v := ?_) rfl (by kernel_rfl) (by kernel_rfl) (by kernel_rfl) (fun _ _ _ h => h) (Or.inl ⟨by kernel_rfl, ?_⟩) hH2 ?_
          rotate_left
          · intro w hSw
            try dsimp only at hSw
            go_simp
            try (with_reducible rfl)
          try simp only [Act.put, List.setIfInBounds_toArray, List.set_cons_zero, List.set_cons_succ]
          refine wpAnyH_take (i := 18) (v := ?_) rfl (by kernel_rfl) (by kernel_rfl) (by kernel_rfl) (fun _ _ _ h => h) (Or.inl ⟨by kernel_rfl, ?_⟩) hH2 ?_
          rotate_left
          · intro w hSw
            try dsimp only at hSw
            go_simp
            try (with_reducible rfl)
          try simp only [Act.put, List.setIfInBounds_toArray, List.set_cons_zero, List.set_cons_succ]
          refine wpAnyH_take (i := 19) (v := ?_) rfl (by kernel_rfl) (by kernel_rfl) (by kernel_rfl) (fun _ _ _ h => h) (Or.inl ⟨by kernel_rfl, ?_⟩) hH2 ?_
          rotate_left
          · intro w hSw
            try dsimp only at hSw
            go_simp
            try (with_reducible rfl)
          try simp only [Act.put, List.setIfInBounds_toArray, List.set_cons_zero, List.set_cons_succ]
          refine wpAnyH_take (i := 20) (v := ?_) rfl (by kernel_rfl) (by kernel_rfl) (by kernel_rfl) (fun _ _ _ h => h) (Or.inl ⟨by kernel_rfl, ?_⟩) hH2 ?_
          rotate_left
          · intro w hSw
            try dsimp only at hSw
            go_simp
            try (with_reducible rfl)
          try simp only [Act.put, List.setIfInBounds_toArray, List.set_cons_zero, List.set_cons_succ]
          refine wpAnyH_take (i := 21) (v := ?_) rfl (by kernel_rfl) (by kernel_rfl) (by kernel_rfl) (fun _ _ _ h => h) (Or.inl ⟨by kernel_rfl, ?_⟩) hH2 ?_
          rotate_left
          · intro w hSw
            try dsimp only at hSw
            go_simp
            try (with_reducible rfl)
          try simp only [Act.put, List.setIfInBounds_toArray, List.set_cons_zero, List.set_cons_succ]
          refine wpAnyH_take (i := 22) (v := ?_) rfl (by kernel_rfl) (by kernel_rfl) (by kernel_rfl) (fun _ _ _ h => h) (Or.inl ⟨by kernel_rfl, ?_⟩) hH2 ?_
          rotate_left
          · intro w hSw
            try dsimp only at hSw
            go_simp
            try (with_reducible rfl)
          try simp only [Act.put, List.setIfInBounds_toArray, List.set_cons_zero, List.set_cons_succ]
          refine wpAnyH_take (i := 23) (v := ?_) rfl (by kernel_rfl) (by kernel_rfl) (by kernel_rfl) (fun _ _ _ h => h) (Or.inl ⟨by kernel_rfl, ?_⟩) hH2 ?_
          rotate_left
          · intro w hSw
            try dsimp only at hSw
            go_simp
            try (with_reducible rfl)
          try simp only [Act.put, List.setIfInBounds_toArray, List.set_cons_zero, List.set_cons_succ]
          refine wpAnyH_take (i := 24) (v := ?_) rfl (by kernel_rfl) (by kernel_rfl) (by kernel_rfl) (fun _ _ _ h => h) (Or.inl ⟨by kernel_rfl, ?_⟩) hH2 ?_
          rotate_left
          · intro w hSw
            try dsimp only at hSw
            go_simp
            try (with_reducible rfl)
          try simp only [Act.put, List.setIfInBounds_toArray, List.set_cons_zero, List.set_cons_succ]
          refine wpAnyH_take (i := 26) (v := ?_) rfl (by kernel_rfl) (by kernel_rfl) (by kernel_rfl) (fun _ _ _ h => h) (Or.inl ⟨by kernel_rfl, ?_⟩) hH2 ?_
          rotate_left
          · intro w hSw
            try dsimp only at hSw
            go_simp
            try (with_reducible rfl)
          try simp only [Act.put, List.setIfInBounds_toArray, List.set_cons_zero, List.set_cons_succ]
          refine wpAnyH_ready (rs := [25]) (by kernel_rfl) (by simp) ?_
          refine AllReadyH.cons rfl (fun K hK => ?_) AllReadyH.nil
          go_simp
          refine (HLC.out _).mono ?_
          rintro e w11 ⟨rfl, rfl⟩
          refine hK.out _ _ hS8 (fun hH3 => ?_)
          clear hK K
          try simp only [Act.put, List.setIfInBounds_toArray, List.set_cons_zero, List.set_cons_succ]
          refine wpAnyH_take (i := 27) (v := ?_) rfl (by kernel_rfl) (by kernel_rfl) (by kernel_rfl) (fun _ _ _ h => h) (Or.inl ⟨by kernel_rfl, ?_⟩) hH3 ?_
          rotate_left
          · intro w hSw
            try dsimp only at hSw
            go_simp
            try (with_reducible rfl)
          try simp only [Act.put, List.setIfInBounds_toArray, List.set_cons_zero, List.set_cons_succ]
          refine wpAnyH_take (i := 28) (v := ?_) rfl (by kernel_rfl) (by kernel_rfl) (by kernel_rfl) (fun _ _ _ h => h) (Or.inl ⟨by kernel_rfl, ?_⟩) hH3 ?_
          rotate_left
          · intro w hSw
            try dsimp only at hSw
            go_simp
            try (with_reducible rfl)
          try simp only [Act.put, List.setIfInBounds_toArray, List.set_cons_zero, List.set_cons_succ]
          refine wpAnyH_take (i := 29) (v := ?_) rfl (by kernel_rfl) (by kernel_rfl) (by kernel_rfl) (fun _ _ _ h => h) (Or.inl ⟨by kernel_rfl, ?_⟩) hH3 ?_
          rotate_left
          · intro w hSw
            try dsimp only at hSw
            go_simp
            try (with_reducible rfl)
          try simp only [Act.put, List.setIfInBounds_toArray, List.set_cons_zero, List.set_cons_succ]
          refine wpAnyH_ready (rs := [30]) (by kernel_rfl) (by simp) ?_
          refine AllReadyH.cons rfl (fun K hK => ?_) AllReadyH.nil
          go_simp
          refine (HAL.out _).mono ?_
          rintro e w12 ⟨rfl, hU12⟩
          have HU12 := Lib.hid (((((HU3.out.trans HU5.out).trans HU7.out).trans HU8.out).trans HU10.out).trans hU12)
          have hS12 := SB.out w12 (HU10.out.trans hU12)
          clear hU12 hH3 hH2 hS8 HU10
          refine hK.out _ _ hS12 (fun hH6 => ?_)
          clear hK K
          try simp only [Act.put, List.setIfInBounds_toArray, List.set_cons_zero, List.set_cons_succ]
          refine wpAnyH_take (i := 31) (v := ?_) rfl (by kernel_rfl) (by kernel_rfl) (by kernel_rfl) (fun _ _ _ h => h) (Or.inl ⟨by kernel_rfl, ?_⟩) hH6 ?_
          rotate_left
          · intro w hSw
            try dsimp only at hSw
            go_simp
            try (with_reducible rfl)
          try simp only [Act.put, List.setIfInBounds_toArray, List.set_cons_zero, List.set_cons_succ]
          refine wpAnyH_take (i := 32) (v := ?_) rfl (by kernel_rfl) (by kernel_rfl) (by kernel_rfl) (fun _ _ _ h => h) (Or.inl ⟨by kernel_rfl, ?_⟩) hH6 ?_
          rotate_left
          · intro w hSw
            try dsimp only at hSw
            go_simp
            try (with_reducible rfl)
          try simp only [Act.put, List.setIfInBounds_toArray, List.set_cons_zero, List.set_cons_succ]
          refine wpAnyH_done (by kernel_rfl) ?_ _
          simp only [Act.put, List.setIfInBounds_toArray, List.set_cons_zero, List.set_cons_succ, List.getElem_toArray, List.getElem_cons_succ, List.getElem_cons_zero]
          go_wp2_with fail
          go_ret
          exact ⟨rfl, HU12.out⟩
      · have hov2 : r'.over = false := by simpa using hov
        rw [hov2] at cov
        by_cases hlt : k < n
        · obtain ⟨ba, off, rfl, h1⟩ := HRW.out k hlt
          have hb3 := HRL.out ba off rfl (by omega)
          have hsame := HKr.out.block ba (cell_lt h1) (by have := HH.out; omega) (Far.low hb3)
          have w1 := (tcell (o := off + k) hsame).trans h1
          have HA := Lib.hid ((HDR.out k hlt sum r' hov2).symm.trans HDr.out)
          obtain ⟨x, hx⟩ : ∃ x, l.getD k 0 = x := ⟨_, rfl⟩
          unfold IVal at w1
          rw [hx] at w1 HA
          obtain ⟨e0, e1, e2, e3, e4, e5, e6⟩ := reg_load HBr.out.2
          have HEL := Lib.hid (fun (w' : World) (k' : TK h w4.heap.size wr w') => (tcell (k'.block ba (cell_lt w1) (by have := HH.out; omega) (Far.low hb3))).trans w1)
          have hki : (k : Int) < n := by omega
          have hk0 : (0 : Int) ≤ (k : Int) := by omega
          clear hx h1 hsame
          by_cases hneg : x < 0
          · rw [if_pos hneg] at HA
            have HS := Lib.hid (HRC.out h w4.heap.size r' wr HRr.out)
            clear hb3
            go_wp2_with fail
            refine HS.out.mono ?_
            rintro e w8 ⟨rfl, h8, k8⟩
            have H8 := Lib.hid h8
            have K8 := Lib.hid (HKr.out.trans k8)
            clear h8 k8
            go_wp2_with fail
            go_roundw
            case rel => exact ⟨k + 1, _, _, by omega, rfl, by go_num, H8, K8, HA⟩
            case measure => simp [intOf]; omega
          · rw [if_neg hneg] at HA
            have HS := Lib.hid (HWC2.out x h w4.heap.size r' wr.drew (HRr.out.up (Up.refl wr).drew))
            clear hb3
            have HKD := Lib.hid (TK.ofUp (g := h) (B := w4.heap.size) (Up.refl wr).drew)
            have S0 : wr.cell? ⟨w.heap.size + 1, 0, none⟩ = some (.slice (some ⟨ba, off, none⟩) n c) ∧ wr.cell? ⟨ba, off + k, none⟩ = some (.int .i64 x) ∧ wr.cell? ⟨w.heap.size, 0, none⟩ = some (.int .i64 k0) ∧ wr.cell? ⟨w.heap.size, 1, none⟩ = some (.int .i64 b) ∧ wr.cell? ⟨w.heap.size, 2, none⟩ = some (.int .i64 lo) ∧ wr.cell? ⟨w.heap.size, 3, none⟩ = some (.int .i64 n0) ∧ wr.cell? ⟨w.heap.size, 4, none⟩ = some (.int .i64 wt) ∧ wr.cell? ⟨w.heap.size, 5, none⟩ = some (.int .i64 rd) ∧ wr.cell? ⟨w.heap.size, 6, none⟩ = some (.int .i64 tp) := ⟨cp, w1, e0, e1, e2, e3, e4, e5, e6⟩
            have HSB := Lib.hid (fun (w' : World) (k' : TK h w4.heap.size wr w') => show w'.cell? ⟨w.heap.size + 1, 0, none⟩ = some (.slice (some ⟨ba, off, none⟩) n c) ∧ w'.cell? ⟨ba, off + k, none⟩ = some (.int .i64 x) ∧ w'.cell? ⟨w.heap.size, 0, none⟩ = some (.int .i64 k0) ∧ w'.cell? ⟨w.heap.size, 1, none⟩ = some (.int .i64 b) ∧ w'.cell? ⟨w.heap.size, 2, none⟩ = some (.int .i64 lo) ∧ w'.cell? ⟨w.heap.size, 3, none⟩ = some (.int .i64 n0) ∧ w'.cell? ⟨w.heap.size, 4, none⟩ = some (.int .i64 wt) ∧ w'.cell? ⟨w.heap.size, 5, none⟩ = some (.int .i64 rd) ∧ w'.cell? ⟨w.heap.size, 6, none⟩ = some (.int .i64 tp) from
              have hb := HBr.out.tkr k' HBN.out (by have := HBN.out; omega) HH.out
              ⟨cell_of_row w' _ 0 _ _ _ hb.1, HEL.out w' k', reg_load hb.2⟩)
            go_wp2_with fail
            clear cp w1 e0 e1 e2 e3 e4 e5 e6
            refine wp_region_held_drew (S := fun w' => w'.cell? ⟨w.heap.size + 1, 0, none⟩ = some (.slice (some ⟨ba, off, none⟩) n c) ∧ w'.cell? ⟨ba, off + k, none⟩ = some (.int .i64 x) ∧ w'.cell? ⟨w.heap.size, 0, none⟩ = some (.int .i64 k0) ∧ w'.cell? ⟨w.heap.size, 1, none⟩ = some (.int .i64 b) ∧ w'.cell? ⟨w.heap.size, 2, none⟩ = some (.int .i64 lo) ∧ w'.cell? ⟨w.heap.size, 3, none⟩ = some (.int .i64 n0) ∧ w'.cell? ⟨w.heap.size, 4, none⟩ = some (.int .i64 wt) ∧ w'.cell? ⟨w.heap.size, 5, none⟩ = some (.int .i64 rd) ∧ w'.cell? ⟨w.heap.size, 6, none⟩ = some (.int .i64 tp)) (by kernel_rfl) S0 (fun hH0 => ?_)
            refine wpAnyH_take (i := 0) (v := ?_) rfl (by kernel_rfl) (by kernel_rfl) (by kernel_rfl) (fun _ _ _ h => h) (Or.inl ⟨by kernel_rfl, ?_⟩) hH0 ?_
            rotate_left
            · intro w hSw
              try dsimp only at hSw
              go_simp
              try (with_reducible rfl)
            try simp only [Act.put, List.setIfInBounds_toArray, List.set_cons_zero, List.set_cons_succ]
            refine wpAnyH_take (i := 1) (v := ?_) rfl (by kernel_rfl) (by kernel_rfl) (by kernel_rfl) (fun _ _ _ h => h) (Or.inl ⟨by kernel_rfl, ?_⟩) hH0 ?_
            rotate_left
            · intro w hSw
              try dsimp only at hSw
              go_simp
              try (with_reducible rfl)
            try simp only [Act.put, List.setIfInBounds_toArray, List.set_cons_zero, List.set_cons_succ]
            refine wpAnyH_take (i := 2) (v := ?_) rfl (by kernel_rfl) (by kernel_rfl) (by kernel_rfl) (fun _ _ _ h => h) (Or.inl ⟨by kernel_rfl, ?_⟩) hH0 ?_
            rotate_left
            · intro w hSw
              try dsimp only at hSw
              go_simp
              try (with_reducible rfl)
            try simp only [Act.put, List.setIfInBounds_toArray, List.set_cons_zero, List.set_cons_succ]
            refine wpAnyH_take (i := 3) (v := ?_) rfl (by kernel_rfl) (by kernel_rfl) (by kernel_rfl) (fun _ _ _ h => h) (Or.inl ⟨by kernel_rfl, ?_⟩) hH0 ?_
            rotate_left
            · intro w hSw
              try dsimp only at hSw
              go_simp
              try (with_reducible rfl)
            try simp only [Act.put, List.setIfInBounds_toArray, List.set_cons_zero, List.set_cons_succ]
            refine wpAnyH_take (i := 4) (v := ?_) rfl (by kernel_rfl) (by kernel_rfl) (by kernel_rfl) (fun _ _ _ h => h) (Or.inl ⟨by kernel_rfl, ?_⟩) hH0 ?_
            rotate_left
            · intro w hSw
              try dsimp only at hSw
              go_simp
              try (with_reducible rfl)
            try simp only [Act.put, List.setIfInBounds_toArray, List.set_cons_zero, List.set_cons_succ]
            refine wpAnyH_take (i := 5) (v := ?_) rfl (by kernel_rfl) (by kernel_rfl) (by kernel_rfl) (fun _ _ _ h => h) (Or.inl ⟨by kernel_rfl, ?_⟩) hH0 ?_
            rotate_left
            · intro w hSw
              try dsimp only at hSw
              go_simp
              try (with_reducible rfl)
            try simp only [Act.put, List.setIfInBounds_toArray, List.set_cons_zero, List.set_cons_succ]
            refine wpAnyH_ready (rs := [6]) (by kernel_rfl) (by simp) ?_
            refine AllReadyH.cons rfl (fun K hK => ?_) AllReadyH.nil
            go_simp
            refine HS.out.mono ?_
            rintro e w8 ⟨rfl, h8, k8⟩
            have H8 := Lib.hid h8
            have K8 := Lib.hid ((HKr.out.trans HKD.out).trans k8)
            have hS4 := HSB.out w8 (HKD.out.trans k8)
            clear h8 k8
            refine hK.out _ _ hS4 (fun hH1 => ?_)
            clear hK K
            try simp only [Act.put, List.setIfInBounds_toArray, List.set_cons_zero, List.set_cons_succ]
            refine wpAnyH_done (by kernel_rfl) ?_ _
            go_wp2_with fail
            go_roundw
            case rel => exact ⟨k + 1, _, _, by omega, rfl, by go_num, H8, K8, HA⟩
            case measure => simp [intOf]; omega
        · obtain rfl : k = n := by omega
          obtain rfl : (sum, r') = R := (HEND.out sum r').symm.trans HDr.out
          obtain ⟨hv, hsm⟩ := HM.out
          simp only [hov2, Bool.false_eq_true, if_false] at hv
          subst hv
          have HSS := Lib.hid hsm
          clear hsm HM HDr
          have hU7 : Up w4 wr := HU6.out.trans' (HKr.out.below (Nat.le_refl _) HH.out HU6.out.size)
          have HU7 := Lib.hid hU7
          have hbo7 := (hU7.block _ (Array.getElem?_eq_some_iff.1 HBO4.out).1).trans HBO4.out
          have HO7 := Lib.hid (HO4.out.up hU7)
          have HBQ := Lib.hid hbo7
          have HBR := Lib.hid HBr.out.2
          have HRX := Lib.hid HRr.out
          have HSTR := Lib.hid (fun W => strips12 tp W)
          have HCL := Lib.hid (fun W => (show Calls Try.prog 41 #[.int .i64 tp, .int .i64 255] W fun e w' => e = .returned (.int .i64 (mostI tp)) ∧ w' = W by
            have := clamp_any tp 255 W
            rw [clamp255] at this
            exact this))
          have HLC := Lib.hid (fun W => locals12 tp W)
          have hm := mostI_le tp
          generalize mostI tp = mm at *
          have HMM := Lib.hid hm
          obtain ⟨g0, g1, g2, g3, g4, g5, g6⟩ := reg_load HBr.out.2
          clear hU7 hbo7 HRr HKr HBr HBO4 HO4 HB5 HRW HRL HDR HEND HD0 HBN HR5 hm
          go_wp2_with fail
          refine (HSTR.out _).mono ?_
          rintro e w8 ⟨rfl, hU8, hb8⟩
          obtain ⟨qs, hqs⟩ : ∃ x, wr.heap.size = x := ⟨_, rfl⟩
          rw [hqs] at hb8 ⊢
          clear g0 g1 g2 g3 g4 g5 g6
          have HBR8 := Lib.hid ((hU8.block _ (Array.getElem?_eq_some_iff.1 HBR.out).1).trans HBR.out)
          have hbq8 := (hU8.block _ (Array.getElem?_eq_some_iff.1 HBQ.out).1).trans HBQ.out
          have HU8 := Lib.hid hU8
          have SB := Lib.hid (fun (w' : World) (hU : Up w8 w') => show w'.cell? ⟨q, 0, none⟩ = some (.bool P.1.isSome) ∧ w'.cell? ⟨q, 1, none⟩ = some (.slice X P.2.acc.length cX) ∧ w'.cell? ⟨q, 2, none⟩ = some (.slice N P.2.nts.length cN) ∧ w'.cell? ⟨q, 3, none⟩ = some (.slice L (shortL P.2.loc).length cL) ∧ w'.cell? ⟨w.heap.size, 6, none⟩ = some (.int .i64 tp) ∧ w'.cell? ⟨qs, 0, none⟩ = some (.int .i64 (mm + 1)) ∧ w'.cell? ⟨qs, 1, none⟩ = some (.int .i64 1) ∧ w'.cell? ⟨qs, 2, none⟩ = some (.int .i64 1) from
            have hb := (hU.block _ (Array.getElem?_eq_some_iff.1 hbq8).1).trans hbq8
            have hs := (hU.block _ (Array.getElem?_eq_some_iff.1 hb8).1).trans hb8
            ⟨cell_of_row w' q 0 _ _ _ hb, cell_of_row w' q 1 _ _ _ hb, cell_of_row w' q 2 _ _ _ hb, cell_of_row w' q 3 _ _ _ hb, (reg_load ((hU.block _ (Array.getElem?_eq_some_iff.1 HBR8.out).1).trans HBR8.out)).2.2.2.2.2.2, cell_of_row w' qs 0 _ _ _ hs, cell_of_row w' qs 1 _ _ _ hs, cell_of_row w' qs 2 _ _ _ hs⟩)
          obtain ⟨g0, g1, g2, g3, g4, g5, g6⟩ := reg_load HBR8.out
          clear hU8 hb8 hbq8 hqs HBR HBQ
          go_wp2_with fail
          refine (HCL.out _).mono ?_
          rintro e w8' ⟨rfl, rfl⟩
          clear g0 g1 g2 g3 g4 g5 g6
          have hm1 : wrap64 (mm + 1) = mm + 1 := IntWalk.wrap64_in _ (by have := HMM.out; omega)
          go_wp2_with fail
          have HR7 := Lib.hid (rout_any h w4.heap.size r' w8'.drew (HRX.out.up HU8.out.drew))
          have S0 := SB.out w8'.drew (Up.refl _).drew
          have heq := eqStrip_any (mm + 1) 1 1
          clear HRX
          refine wp_region_held_drew (S := fun w' => w'.cell? ⟨q, 0, none⟩ = some (.bool P.1.isSome) ∧ w'.cell? ⟨q, 1, none⟩ = some (.slice X P.2.acc.length cX) ∧ w'.cell? ⟨q, 2, none⟩ = some (.slice N P.2.nts.length cN) ∧ w'.cell? ⟨q, 3, none⟩ = some (.slice L (shortL P.2.loc).length cL) ∧ w'.cell? ⟨w.heap.size, 6, none⟩ = some (.int .i64 tp) ∧ w'.cell? ⟨qs, 0, none⟩ = some (.int .i64 (mm + 1)) ∧ w'.cell? ⟨qs, 1, none⟩ = some (.int .i64 1) ∧ w'.cell? ⟨qs, 2, none⟩ = some (.int .i64 1)) (by kernel_rfl) S0 (fun hH0 => ?_)
          clear S0
          refine wpAnyH_take (i := 0) (v := ?_) rfl (by kernel_rfl) (by kernel_rfl) (by kernel_rfl) (fun _ _ _ h => h) (Or.inl ⟨by kernel_rfl, ?_⟩) hH0 ?_
          rotate_left
          · intro w hSw
            try dsimp only at hSw
            go_simp
            try (with_reducible rfl)
          try simp only [Act.put, List.setIfInBounds_toArray, List.set_cons_zero, List.set_cons_succ]
          refine wpAnyH_take (i := 1) (v := ?_) rfl (by kernel_rfl) (by kernel_rfl) (by kernel_rfl) (fun _ _ _ h => h) (Or.inl ⟨by kernel_rfl, ?_⟩) hH0 ?_
          rotate_left
          · intro w hSw
            try dsimp only at hSw
            go_simp
            try (with_reducible rfl)
          try simp only [Act.put, List.setIfInBounds_toArray, List.set_cons_zero, List.set_cons_succ]
          refine wpAnyH_take (i := 2) (v := ?_) rfl (by kernel_rfl) (by kernel_rfl) (by kernel_rfl) (fun _ _ _ h => h) (Or.inl ⟨by kernel_rfl, ?_⟩) hH0 ?_
          rotate_left
          · intro w hSw
            try dsimp only at hSw
            go_simp
            try (with_reducible rfl)
          try simp only [Act.put, List.setIfInBounds_toArray, List.set_cons_zero, List.set_cons_succ]
          refine wpAnyH_take (i := 3) (v := ?_) rfl (by kernel_rfl) (by kernel_rfl) (by kernel_rfl) (fun _ _ _ h => h) (Or.inl ⟨by kernel_rfl, ?_⟩) hH0 ?_
          rotate_left
          · intro w hSw
            try dsimp only at hSw
            go_simp
            try (with_reducible rfl)
          try simp only [Act.put, List.setIfInBounds_toArray, List.set_cons_zero, List.set_cons_succ]
          refine wpAnyH_take (i := 4) (v := ?_) rfl (by kernel_rfl) (by kernel_rfl) (by kernel_rfl) (fun _ _ _ h => h) (Or.inl ⟨by kernel_rfl, ?_⟩) hH0 ?_
          rotate_left
          · intro w hSw
            try dsimp only at hSw
            go_simp
            try (with_reducible rfl)
          try simp only [Act.put, List.setIfInBounds_toArray, List.set_cons_zero, List.set_cons_succ]
          refine wpAnyH_take (i := 5) (v := ?_) rfl (by kernel_rfl) (by kernel_rfl) (by kernel_rfl) (fun _ _ _ h => h) (Or.inl ⟨by kernel_rfl, ?_⟩) hH0 ?_
          rotate_left
          · intro w hSw
            try dsimp only at hSw
            go_simp
            try (with_reducible rfl)
          try simp only [Act.put, List.setIfInBounds_toArray, List.set_cons_zero, List.set_cons_succ]
          refine wpAnyH_ready (rs := [6]) (by kernel_rfl) (by simp) ?_
          refine AllReadyH.cons rfl (fun K hK => ?_) AllReadyH.nil
          go_simp
          refine HR7.out.mono ?_
          rintro e w7 ⟨ov2, rfl, hO8, hU9⟩
          have HU9 := Lib.hid ((Up.refl w8').drew.trans hU9)
          have hS7 := SB.out w7 HU9.out
          have HSM := Lib.hid (same_out (HO7.out.up (HU8.out.trans HU9.out)) hO8 HSS.out HL.out.1 HL.out.2.1 HL.out.2.2)
          clear hO8 hU9 HO7 HSS HL HR7 hH0
          refine hK.out _ _ hS7 (fun hH1 => ?_)
          clear hK K
          try simp only [Act.put, List.setIfInBounds_toArray, List.set_cons_zero, List.set_cons_succ]
          refine wpAnyH_ready (rs := [7]) (by kernel_rfl) (by simp) ?_
          refine AllReadyH.cons rfl (fun K hK => ?_) AllReadyH.nil
          go_simp
          refine HSM.out.mono ?_
          rintro e w10 ⟨rfl, hU10⟩
          have HU10 := Lib.hid (HU9.out.trans hU10)
          have hS8 := SB.out w10 HU10.out
          clear hU10 HU9 HSM hH1 hS7
          refine hK.out _ _ hS8 (fun hH2 => ?_)
          clear hK K
          try simp only [Act.put, List.setIfInBounds_toArray, List.set_cons_zero, List.set_cons_succ]
          refine wpAnyH_take (i := 8) (v := ?_) rfl (by kernel_rfl) (by kernel_rfl) (by kernel_rfl) (fun _ _ _ h => h) (Or.inl ⟨by kernel_rfl, ?_⟩) hH2 ?_
          rotate_left
          · intro w hSw
            try dsimp only at hSw
            go_simp
            try (with_reducible rfl)
          try simp only [Act.put, List.setIfInBounds_toArray, List.set_cons_zero, List.set_cons_succ]
          refine wpAnyH_take (i := 9) (v := ?_) rfl (by kernel_rfl) (by kernel_rfl) (by kernel_rfl) (fun _ _ _ h => h) (Or.inl ⟨by kernel_rfl, ?_⟩) hH2 ?_
          rotate_left
          · intro w hSw
            try dsimp only at hSw
            go_simp
            try (with_reducible rfl)
          try simp only [Act.put, List.setIfInBounds_toArray, List.set_cons_zero, List.set_cons_succ]
          refine wpAnyH_take (i := 10) (v := ?_) rfl (by kernel_rfl) (by kernel_rfl) (by kernel_rfl) (fun _ _ _ h => h) (Or.inl ⟨by kernel_rfl, ?_⟩) hH2 ?_
          rotate_left
          · intro w hSw
            try dsimp only at hSw
            go_simp
            try (with_reducible rfl)
          try simp only [Act.put, List.setIfInBounds_toArray, List.set_cons_zero, List.set_cons_succ]
          refine wpAnyH_take (i := 11) (v := ?_) rfl (by kernel_rfl) (by kernel_rfl) (by kernel_rfl) (fun _ _ _ h => h) (Or.inl ⟨by kernel_rfl, ?_⟩) hH2 ?_
          rotate_left
          · intro w hSw
            try dsimp only at hSw
            go_simp
            try (with_reducible rfl)
          try simp only [Act.put, List.setIfInBounds_toArray, List.set_cons_zero, List.set_cons_succ]
          refine wpAnyH_take (i := 12) (v := ?_) rfl (by kernel_rfl) (by kernel_rfl) (by kernel_rfl) (fun _ _ _ h => h) (Or.inl ⟨by kernel_rfl, ?_⟩) hH2 ?_
          rotate_left
          · intro w hSw
            try dsimp only at hSw
            go_simp
            try (with_reducible rfl)
          try simp only [Act.put, List.setIfInBounds_toArray, List.set_cons_zero, List.set_cons_succ]
          refine wpAnyH_take (i := 13) (v := ?_) rfl (by kernel_rfl) (by kernel_rfl) (by kernel_rfl) (fun _ _ _ h => h) (Or.inl ⟨by kernel_rfl, ?_⟩) hH2 ?_
          rotate_left
          · intro w hSw
            try dsimp only at hSw
            go_simp
            try (with_reducible rfl)
          try simp only [Act.put, List.setIfInBounds_toArray, List.set_cons_zero, List.set_cons_succ]
          refine wpAnyH_take (i := 14) (v := ?_) rfl (by kernel_rfl) (by kernel_rfl) (by kernel_rfl) (fun _ _ _ h => h) (Or.inl ⟨by kernel_rfl, ?_⟩) hH2 ?_
          rotate_left
          · intro w hSw
            try dsimp only at hSw
            go_simp
            try (with_reducible rfl)
          try simp only [Act.put, List.setIfInBounds_toArray, List.set_cons_zero, List.set_cons_succ]
          refine wpAnyH_take (i := 15) (v := ?_) rfl (by kernel_rfl) (by kernel_rfl) (by kernel_rfl) (fun _ _ _ h => h) (Or.inl ⟨by kernel_rfl, ?_⟩) hH2 ?_
          rotate_left
          · intro w hSw
            try dsimp only at hSw
            go_simp
            try (with_reducible rfl)
          try simp only [Act.put, List.setIfInBounds_toArray, List.set_cons_zero, List.set_cons_succ]
          refine wpAnyH_take (i := 16) (v := ?_) rfl (by kernel_rfl) (by kernel_rfl) (by kernel_rfl) (fun _ _ _ h => h) (Or.inl ⟨by kernel_rfl, ?_⟩) hH2 ?_
          rotate_left
          · intro w hSw
            try dsimp only at hSw
            go_simp
            try (with_reducible rfl)
          try simp only [Act.put, List.setIfInBounds_toArray, List.set_cons_zero, List.set_cons_succ]
          refine wpAnyH_take (i := 17) (v := ?_) rfl (by kernel_rfl) (by kernel_rfl) (by kernel_rfl) (fun _ _ _ h => h) (Or.inl ⟨by kernel_rfl, ?_⟩) hH2 ?_
          rotate_left
          · intro w hSw
            try dsimp only at hSw
            go_simp
            try (with_reducible rfl)
          try simp only [Act.put, List.setIfInBounds_toArray, List.set_cons_zero, List.set_cons_succ]
          refine wpAnyH_take (i := 18) (v := ?_) rfl (by kernel_rfl) (by kernel_rfl) (by kernel_rfl) (fun _ _ _ h => h) (Or.inl ⟨by kernel_rfl, ?_⟩) hH2 ?_
          rotate_left
          · intro w hSw
            try dsimp only at hSw
            go_simp
            try (with_reducible rfl)
          try simp only [Act.put, List.setIfInBounds_toArray, List.set_cons_zero, List.set_cons_succ]
          refine wpAnyH_take (i := 19) (v := ?_) rfl (by kernel_rfl) (by kernel_rfl) (by kernel_rfl) (fun _ _ _ h => h) (Or.inl ⟨by kernel_rfl, ?_⟩) hH2 ?_
          rotate_left
          · intro w hSw
            try dsimp only at hSw
            go_simp
            try (with_reducible rfl)
          try simp only [Act.put, List.setIfInBounds_toArray, List.set_cons_zero, List.set_cons_succ]
          refine wpAnyH_take (i := 20) (v := ?_) rfl (by kernel_rfl) (by kernel_rfl) (by kernel_rfl) (fun _ _ _ h => h) (Or.inl ⟨by kernel_rfl, ?_⟩) hH2 ?_
          rotate_left
          · intro w hSw
            try dsimp only at hSw
            go_simp
            try (with_reducible rfl)
          try simp only [Act.put, List.setIfInBounds_toArray, List.set_cons_zero, List.set_cons_succ]
          refine wpAnyH_take (i := 21) (v := ?_) rfl (by kernel_rfl) (by kernel_rfl) (by kernel_rfl) (fun _ _ _ h => h) (Or.inl ⟨by kernel_rfl, ?_⟩) hH2 ?_
          rotate_left
          · intro w hSw
            try dsimp only at hSw
            go_simp
            try (with_reducible rfl)
          try simp only [Act.put, List.setIfInBounds_toArray, List.set_cons_zero, List.set_cons_succ]
          refine wpAnyH_take (i := 22) (v := ?_) rfl (by kernel_rfl) (by kernel_rfl) (by kernel_rfl) (fun _ _ _ h => h) (Or.inl ⟨by kernel_rfl, ?_⟩) hH2 ?_
          rotate_left
          · intro w hSw
            try dsimp only at hSw
            go_simp
            try (with_reducible rfl)
          try simp only [Act.put, List.setIfInBounds_toArray, List.set_cons_zero, List.set_cons_succ]
          refine wpAnyH_take (i := 23) (v := ?_) rfl (by kernel_rfl) (by kernel_rfl) (by kernel_rfl) (fun _ _ _ h => h) (Or.inl ⟨by kernel_rfl, ?_⟩) hH2 ?_
          rotate_left
          · intro w hSw
            try dsimp only at hSw
            go_simp
            try (with_reducible rfl)
          try simp only [Act.put, List.setIfInBounds_toArray, List.set_cons_zero, List.set_cons_succ]
          refine wpAnyH_take (i := 24) (v := ?_) rfl (by kernel_rfl) (by kernel_rfl) (by kernel_rfl) (fun _ _ _ h => h) (Or.inl ⟨by kernel_rfl, ?_⟩) hH2 ?_
          rotate_left
          · intro w hSw
            try dsimp only at hSw
            go_simp
            try (with_reducible rfl)
          try simp only [Act.put, List.setIfInBounds_toArray, List.set_cons_zero, List.set_cons_succ]
          refine wpAnyH_take (i := 26) (v := ?_) rfl (by kernel_rfl) (by kernel_rfl) (by kernel_rfl) (fun _ _ _ h => h) (Or.inl ⟨by kernel_rfl, ?_⟩) hH2 ?_
          rotate_left
          · intro w hSw
            try dsimp only at hSw
            go_simp
            try (with_reducible rfl)
          try simp only [Act.put, List.setIfInBounds_toArray, List.set_cons_zero, List.set_cons_succ]
          refine wpAnyH_ready (rs := [25]) (by kernel_rfl) (by simp) ?_
          refine AllReadyH.cons rfl (fun K hK => ?_) AllReadyH.nil
          go_simp
          refine (HLC.out _).mono ?_
          rintro e w11 ⟨rfl, rfl⟩
          refine hK.out _ _ hS8 (fun hH3 => ?_)
          clear hK K
          try simp only [Act.put, List.setIfInBounds_toArray, List.set_cons_zero, List.set_cons_succ]
          refine wpAnyH_take (i := 27) (v := ?_) rfl (by kernel_rfl) (by kernel_rfl) (by kernel_rfl) (fun _ _ _ h => h) (Or.inl ⟨by kernel_rfl, ?_⟩) hH3 ?_
          rotate_left
          · intro w hSw
            try dsimp only at hSw
            go_simp
            try (with_reducible rfl)
          try simp only [Act.put, List.setIfInBounds_toArray, List.set_cons_zero, List.set_cons_succ]
          refine wpAnyH_take (i := 28) (v := ?_) rfl (by kernel_rfl) (by kernel_rfl) (by kernel_rfl) (fun _ _ _ h => h) (Or.inl ⟨by kernel_rfl, ?_⟩) hH3 ?_
          rotate_left
          · intro w hSw
            try dsimp only at hSw
            go_simp
            try (with_reducible rfl)
          try simp only [Act.put, List.setIfInBounds_toArray, List.set_cons_zero, List.set_cons_succ]
          refine wpAnyH_take (i := 29) (v := ?_) rfl (by kernel_rfl) (by kernel_rfl) (by kernel_rfl) (fun _ _ _ h => h) (Or.inl ⟨by kernel_rfl, ?_⟩) hH3 ?_
          rotate_left
          · intro w hSw
            try dsimp only at hSw
            go_simp
            try (with_reducible rfl)
          try simp only [Act.put, List.setIfInBounds_toArray, List.set_cons_zero, List.set_cons_succ]
          refine wpAnyH_ready (rs := [30]) (by kernel_rfl) (by simp) ?_
          refine AllReadyH.cons rfl (fun K hK => ?_) AllReadyH.nil
          go_simp
          refine (HAL.out _).mono ?_
          rintro e w12 ⟨rfl, hU12⟩
          have HU12 := Lib.hid (((((HU3.out.trans HU5.out).trans HU7.out).trans HU8.out).trans HU10.out).trans hU12)
          have hS12 := SB.out w12 (HU10.out.trans hU12)
          clear hU12 hH3 hH2 hS8 HU10
          refine hK.out _ _ hS12 (fun hH6 => ?_)
          clear hK K
          try simp only [Act.put, List.setIfInBounds_toArray, List.set_cons_zero, List.set_cons_succ]
          refine wpAnyH_take (i := 31) (v := ?_) rfl (by kernel_rfl) (by kernel_rfl) (by kernel_rfl) (fun _ _ _ h => h) (Or.inl ⟨by kernel_rfl, ?_⟩) hH6 ?_
          rotate_left
          · intro w hSw
            try dsimp only at hSw
            go_simp
            try (with_reducible rfl)
          try simp only [Act.put, List.setIfInBounds_toArray, List.set_cons_zero, List.set_cons_succ]
          refine wpAnyH_take (i := 32) (v := ?_) rfl (by kernel_rfl) (by kernel_rfl) (by kernel_rfl) (fun _ _ _ h => h) (Or.inl ⟨by kernel_rfl, ?_⟩) hH6 ?_
          rotate_left
          · intro w hSw
            try dsimp only at hSw
            go_simp
            try (with_reducible rfl)
          try simp only [Act.put, List.setIfInBounds_toArray, List.set_cons_zero, List.set_cons_succ]
          refine wpAnyH_done (by kernel_rfl) ?_ _
          simp only [Act.put, List.setIfInBounds_toArray, List.set_cons_zero, List.set_cons_succ, List.getElem_toArray, List.getElem_cons_succ, List.getElem_cons_zero]
          go_wp2_with fail
          go_ret
          exact ⟨rfl, HU12.out⟩
  · clear hr hr0 hr1
    go_enter Try.func7, Try.ntmps7
    go_wp2_with fail
    all_goals first
      | (refine (HAL.out _).mono ?_
         rintro e w1 ⟨rfl, hU1⟩
         have HU2 := Lib.hid (HU1.out.trans hU1)
         clear hU1 HU1 HAL a0 a1 a2 a3 a4 a5 a6 a7
         go_wp2_with fail
         go_ret
         exact ⟨rfl, HU2.out⟩)
      | (exfalso; omega)

end Go.Proofs.Ytpandnodeldbjaa
