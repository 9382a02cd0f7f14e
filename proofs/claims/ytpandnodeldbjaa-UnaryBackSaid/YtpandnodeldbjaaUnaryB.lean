/-
  Package unary: Read and Write, on the program's tape: their loops.
-/
import Derived.Test.YtpandnodeldbjaaUnaryA
set_option linter.unusedVariables false
set_option linter.unusedSimpArgs false
namespace Go.Proofs.Ytpandnodeldbjaa
open Go.RowKit

set_option maxRecDepth 10000 in
set_option maxHeartbeats 1000000 in
theorem unaryW_any (k b lo n wr rd tp v : Int) (g B : Nat) (s : TS) (w : World) (h : Tape1 w g B s) (hb0 : -1099511627776 ≤ b) (hb1 : b ≤ 1099511627776) (hl0 : -1099511627776 ≤ lo) (hl1 : lo ≤ 1099511627776) :
    Calls Try.prog 37 #[.pointer (some ⟨g, 0, none⟩), regV k b lo n wr rd tp, .int .i64 v] w (TPost encU g B w ((unW b lo tp v).onT s)) := by
  have hU : Up w (w.alloc (.cells (regC k b lo n wr rd tp) 50)) := (Up.refl w).alloc _
  have hb := reg_box w k b lo n wr rd tp
  have hgs := h.1.gs
  have HT := Lib.hid (h.up hU)
  have HU := Lib.hid (TK.ofUp (g := g) (B := B) hU)
  have HMO := Lib.hid (fun W => most_any tp W)
  have HPC := Lib.hid (fun i up s W hT hi0 hi1 => put_any k b lo n wr rd tp i up g B s W hT hb0 hb1 hl0 hl1 hi0 hi1)
  have HKB := Lib.hid (fun (w' : World) (k2 : TK g B (w.alloc (.cells (regC k b lo n wr rd tp) 50)) w') => reg_load (k2.one hb (by omega) (.inr (by decide))))
  obtain ⟨R, hR⟩ : ∃ R, (unW b lo tp v).onT s = R := ⟨_, rfl⟩
  rw [hR]
  have HE := Lib.hid hR
  have hx := unV_le tp v
  have hm := mostI_le tp
  unfold unW at HE
  obtain ⟨x, hxe⟩ : ∃ x : Nat, unV tp v = x := ⟨(unV tp v).toNat, by omega⟩
  rw [hxe] at HE hx
  unfold unV at hxe
  generalize mostI tp = m at *
  rw [Int.toNat_natCast] at HE
  have HXB := Lib.hid (show (x : Int) ≤ 255 by omega)
  unfold regV at HPC ⊢
  unfold regC at *
  obtain ⟨c0, c1, c2, c3, c4, c5, c6⟩ := reg_load hb
  generalize hW : w.alloc (.cells #[.int .i64 k, .int .i64 b, .int .i64 lo, .int .i64 n, .int .i64 wr, .int .i64 rd, .int .i64 tp] 50) = W0 at *
  have HW := Lib.hid hW
  have K0 := Lib.hid (TK.refl g B W0)
  have hcase : (v < 0 ∧ x = 0) ∨ (¬ v < 0 ∧ m < v ∧ m = (x : Int)) ∨ (¬ v < 0 ∧ ¬ m < v ∧ v = (x : Int)) := by
    unfold clampI at hxe
    split at hxe
    · exact .inl ⟨by assumption, by omega⟩
    · split at hxe
      · exact .inr (.inl ⟨by assumption, by assumption, by omega⟩)
      · exact .inr (.inr ⟨by assumption, by assumption, by omega⟩)
  have hm0 := hm.1
  have HM := Lib.hid hm
  clear h hU hR hb hb0 hb1 hl0 hl1 hW hxe hx hm
  rcases hcase with ⟨h1, h2⟩ | ⟨h1, h2, h3⟩ | ⟨h1, h2, h3⟩
  · have z1 : (v < m) = True := by simp; omega
    have z2 : (m < v) = False := by simp; omega
    have z3 : ((0 : Int) < v) = False := by simp; omega
    subst h2
    clear hm0
    rw [Int.natCast_zero] at HE
    go_enter Try.func37, Try.ntmps37
    go_wp2_with fail
    rw [HW.out]
    go_wp2_with fail
    refine (HMO.out _).mono ?_
    rintro e w1 ⟨rfl, rfl⟩
    go_wp2_with fail
    refine (call_step (HPC.out _ _ _ _ HT.out (by have := HXB.out; omega) (by have := HXB.out; omega)) HE.out).mono ?_
    rintro e w2 (⟨s2, rfl, H2, K2, E2⟩ | ⟨_, s2, rfl, H2, K2, E2⟩)
    · go_wp2_with fail
      exact ⟨rfl, TPost.none E2.out ⟨rfl, H2.out, HU.out.trans K2.out⟩⟩
    unfold encU
    clear c0 c1 c2 c3 c4 c5 c6 K0 HE HT HMO
    go_wp2_with fail
    go_loopw [18] (fun t wr => t = .int .i64 0 ∧ wr = w2) (fun _ _ => 0)
    case atStart => exact ⟨rfl, rfl⟩
    case round =>
      obtain ⟨rfl, rfl⟩ := hrel
      go_wp2_with fail
      go_end0
      exact TPost.some E2.out.symm ⟨rfl, H2.out, HU.out.trans K2.out⟩
  · rcases Nat.eq_zero_or_pos x with hx0 | hx0
    · subst hx0
      rw [Int.natCast_zero] at HE h3
      subst h3
      have z1 : (v < 0) = False := by simp; omega
      have z2 : ((0 : Int) < v) = True := by simp; omega
      clear hm0
      go_enter Try.func37, Try.ntmps37
      go_wp2_with fail
      rw [HW.out]
      go_wp2_with fail
      refine (HMO.out _).mono ?_
      rintro e w1 ⟨rfl, rfl⟩
      go_wp2_with fail
      refine (call_step (HPC.out _ _ _ _ HT.out (by have := HXB.out; omega) (by have := HXB.out; omega)) HE.out).mono ?_
      rintro e w2 (⟨s2, rfl, H2, K2, E2⟩ | ⟨_, s2, rfl, H2, K2, E2⟩)
      · go_wp2_with fail
        exact ⟨rfl, TPost.none E2.out ⟨rfl, H2.out, HU.out.trans K2.out⟩⟩
      unfold encU
      clear c0 c1 c2 c3 c4 c5 c6 K0 HE HT HMO
      go_wp2_with fail
      go_loopw [18] (fun t wr => t = .int .i64 0 ∧ wr = w2) (fun _ _ => 0)
      case atStart => exact ⟨rfl, rfl⟩
      case round =>
        obtain ⟨rfl, rfl⟩ := hrel
        go_wp2_with fail
        go_end0
        exact TPost.some E2.out.symm ⟨rfl, H2.out, HU.out.trans K2.out⟩
    · subst h3
      have z1 : (v < (x : Int)) = False := by simp; omega
      have z2 : ((x : Int) < v) = True := by simp; omega
      have z3 : ((0 : Int) < (x : Int)) = True := by simp; omega
      have z4 : ((x : Int) < 0) = False := by simp
      have z5 : (0 < x) = True := by simp; omega
      go_enter Try.func37, Try.ntmps37
      go_wp2_with fail
      rw [HW.out]
      go_wp2_with fail
      refine (HMO.out _).mono ?_
      rintro e w1 ⟨rfl, rfl⟩
      go_wp2_with fail
      refine (call_step (HPC.out _ _ _ _ HT.out (by have := HXB.out; omega) (by have := HXB.out; omega)) HE.out).mono ?_
      rintro e w2 (⟨s2, rfl, H2, K2, E2⟩ | ⟨_, s2, rfl, H2, K2, E2⟩)
      · go_wp2_with fail
        exact ⟨rfl, TPost.none E2.out ⟨rfl, H2.out, HU.out.trans K2.out⟩⟩
      unfold encU
      clear c0 c1 c2 c3 c4 c5 c6 K0 HE HT HMO
      go_wp2_with fail
      clear h1 HW h2 z1 z2 z3 z4 z5 hm0
      go_loopw [18] (fun t wr => ∃ (k : Nat) (s' : TS), k ≤ x ∧ t = .int .i64 k ∧ Hid (Tape1 wr g B s') ∧ Hid (TK g B w1 wr) ∧ Hid ((downO b lo (x - k)).onT s' = R)) (fun t _ => x - (intOf t).toNat)
      case atStart => exact ⟨0, s2, by omega, rfl, H2, K2, E2⟩
      case round =>
        obtain ⟨k, s', hk, rfl, HTr, HKr, HDr⟩ := hrel
        by_cases hlt : k < x
        · obtain ⟨c0, c1, c2, c3, c4, c5, c6⟩ := HKB.out _ HKr.out
          obtain ⟨m, hm⟩ : ∃ m, x - k = m + 1 := ⟨x - k - 1, by omega⟩
          have HDR := Lib.hid (show ((putO b lo m false).bind fun _ => downO b lo m).onT s' = R by rw [← HDr.out, hm]; rfl)
          have hxb := HXB.out
          have y2 : (x : Int) - 1 - (k : Int) = (m : Int) := by omega
          have hki : (k : Int) < x := by omega
          have hm0 : (0 : Int) ≤ (m : Int) := by omega
          have hm1 : (m : Int) ≤ 255 := by omega
          go_wp2_with fail
          refine (call_step (HPC.out _ _ _ _ HTr.out hm0 hm1) HDR.out).mono ?_
          rintro e w3 (⟨s3, rfl, H3, K3, E3⟩ | ⟨_, s3, rfl, H3, K3, E3⟩)
          · go_wp2_with fail
            exact ⟨rfl, TPost.none E3.out ⟨rfl, H3.out, HU.out.trans (HKr.out.trans K3.out)⟩⟩
          unfold encU
          have K4 := Lib.hid (HKr.out.trans K3.out)
          have E4 := Lib.hid (show (downO b lo (x - (k + 1))).onT s3 = R by rw [show x - (k + 1) = m by omega]; exact E3.out)
          clear c0 c1 c2 c3 c4 c5 c6 hm y2 hm0 hm1
          go_wp2_with fail
          go_roundw
          case rel => exact ⟨k + 1, s3, by omega, by go_num, H3, K4, E4⟩
          case measure => simp [intOf]; omega
        · obtain rfl : k = x := by omega
          have HF := Lib.hid (show (some (), s') = R by rw [← HDr.out, Nat.sub_self]; rfl)
          clear hlt
          go_wp2_with fail
          go_end0
          exact TPost.some HF.out.symm ⟨rfl, HTr.out, HU.out.trans HKr.out⟩
  · subst h3
    rcases Nat.eq_zero_or_pos x with hx0 | hx0
    · subst hx0
      rw [Int.natCast_zero] at HE h1 h2 ⊢
      have z1 : (m < 0) = False := by simp; omega
      have z2 : (0 < m ∨ m = 0) := by omega
      rcases z2 with z2 | z2
      · clear hm0
        go_enter Try.func37, Try.ntmps37
        go_wp2_with fail
        rw [HW.out]
        go_wp2_with fail
        refine (HMO.out _).mono ?_
        rintro e w1 ⟨rfl, rfl⟩
        go_wp2_with fail
        refine (call_step (HPC.out _ _ _ _ HT.out (by have := HXB.out; omega) (by have := HXB.out; omega)) HE.out).mono ?_
        rintro e w2 (⟨s2, rfl, H2, K2, E2⟩ | ⟨_, s2, rfl, H2, K2, E2⟩)
        · go_wp2_with fail
          exact ⟨rfl, TPost.none E2.out ⟨rfl, H2.out, HU.out.trans K2.out⟩⟩
        unfold encU
        clear c0 c1 c2 c3 c4 c5 c6 K0 HE HT HMO
        go_wp2_with fail
        go_loopw [18] (fun t wr => t = .int .i64 0 ∧ wr = w2) (fun _ _ => 0)
        case atStart => exact ⟨rfl, rfl⟩
        case round =>
          obtain ⟨rfl, rfl⟩ := hrel
          go_wp2_with fail
          go_end0
          exact TPost.some E2.out.symm ⟨rfl, H2.out, HU.out.trans K2.out⟩
      · subst z2
        clear hm0
        go_enter Try.func37, Try.ntmps37
        go_wp2_with fail
        rw [HW.out]
        go_wp2_with fail
        refine (HMO.out _).mono ?_
        rintro e w1 ⟨rfl, rfl⟩
        go_wp2_with fail
        refine (call_step (HPC.out _ _ _ _ HT.out (by have := HXB.out; omega) (by have := HXB.out; omega)) HE.out).mono ?_
        rintro e w2 (⟨s2, rfl, H2, K2, E2⟩ | ⟨_, s2, rfl, H2, K2, E2⟩)
        · go_wp2_with fail
          exact ⟨rfl, TPost.none E2.out ⟨rfl, H2.out, HU.out.trans K2.out⟩⟩
        unfold encU
        clear c0 c1 c2 c3 c4 c5 c6 K0 HE HT HMO
        go_wp2_with fail
        go_loopw [18] (fun t wr => t = .int .i64 0 ∧ wr = w2) (fun _ _ => 0)
        case atStart => exact ⟨rfl, rfl⟩
        case round =>
          obtain ⟨rfl, rfl⟩ := hrel
          go_wp2_with fail
          go_end0
          exact TPost.some E2.out.symm ⟨rfl, H2.out, HU.out.trans K2.out⟩
    · have z1 : (m < (x : Int)) = False := by simp; omega
      have z3 : ((0 : Int) < (x : Int)) = True := by simp; omega
      have z4 : ((x : Int) < 0) = False := by simp
      have z5 : (0 < x) = True := by simp; omega
      have z6 : ((x : Int) < m ∨ m = x) := by omega
      rcases z6 with z6 | z6
      · have HXM := Lib.hid z6
        go_enter Try.func37, Try.ntmps37
        go_wp2_with fail
        rw [HW.out]
        go_wp2_with fail
        refine (HMO.out _).mono ?_
        rintro e w1 ⟨rfl, rfl⟩
        go_wp2_with fail
        refine (call_step (HPC.out _ _ _ _ HT.out (by have := HXB.out; omega) (by have := HXB.out; omega)) HE.out).mono ?_
        rintro e w2 (⟨s2, rfl, H2, K2, E2⟩ | ⟨_, s2, rfl, H2, K2, E2⟩)
        · go_wp2_with fail
          exact ⟨rfl, TPost.none E2.out ⟨rfl, H2.out, HU.out.trans K2.out⟩⟩
        unfold encU
        clear c0 c1 c2 c3 c4 c5 c6 K0 HE HT HMO
        go_wp2_with fail
        clear h1 HW h2 z1 z3 z4 z5 hm0 z6
        go_loopw [18] (fun t wr => ∃ (k : Nat) (s' : TS), k ≤ x ∧ t = .int .i64 k ∧ Hid (Tape1 wr g B s') ∧ Hid (TK g B w1 wr) ∧ Hid ((downO b lo (x - k)).onT s' = R)) (fun t _ => x - (intOf t).toNat)
        case atStart => exact ⟨0, s2, by omega, rfl, H2, K2, E2⟩
        case round =>
          obtain ⟨k, s', hk, rfl, HTr, HKr, HDr⟩ := hrel
          by_cases hlt : k < x
          · obtain ⟨c0, c1, c2, c3, c4, c5, c6⟩ := HKB.out _ HKr.out
            obtain ⟨m, hm⟩ : ∃ m, x - k = m + 1 := ⟨x - k - 1, by omega⟩
            have HDR := Lib.hid (show ((putO b lo m false).bind fun _ => downO b lo m).onT s' = R by rw [← HDr.out, hm]; rfl)
            have hxb := HXB.out
            have y2 : (x : Int) - 1 - (k : Int) = (m : Int) := by omega
            have hki : (k : Int) < x := by omega
            have hm0 : (0 : Int) ≤ (m : Int) := by omega
            have hm1 : (m : Int) ≤ 255 := by omega
            go_wp2_with fail
            refine (call_step (HPC.out _ _ _ _ HTr.out hm0 hm1) HDR.out).mono ?_
            rintro e w3 (⟨s3, rfl, H3, K3, E3⟩ | ⟨_, s3, rfl, H3, K3, E3⟩)
            · go_wp2_with fail
              exact ⟨rfl, TPost.none E3.out ⟨rfl, H3.out, HU.out.trans (HKr.out.trans K3.out)⟩⟩
            unfold encU
            have K4 := Lib.hid (HKr.out.trans K3.out)
            have E4 := Lib.hid (show (downO b lo (x - (k + 1))).onT s3 = R by rw [show x - (k + 1) = m by omega]; exact E3.out)
            clear c0 c1 c2 c3 c4 c5 c6 hm y2 hm0 hm1
            go_wp2_with fail
            go_roundw
            case rel => exact ⟨k + 1, s3, by omega, by go_num, H3, K4, E4⟩
            case measure => simp [intOf]; omega
          · obtain rfl : k = x := by omega
            have HF := Lib.hid (show (some (), s') = R by rw [← HDr.out, Nat.sub_self]; rfl)
            clear hlt
            go_wp2_with fail
            go_end0
            exact TPost.some HF.out.symm ⟨rfl, HTr.out, HU.out.trans HKr.out⟩
      · subst z6
        have HXM := Lib.hid hx0
        go_enter Try.func37, Try.ntmps37
        go_wp2_with fail
        rw [HW.out]
        go_wp2_with fail
        refine (HMO.out _).mono ?_
        rintro e w1 ⟨rfl, rfl⟩
        go_wp2_with fail
        refine (call_step (HPC.out _ _ _ _ HT.out (by have := HXB.out; omega) (by have := HXB.out; omega)) HE.out).mono ?_
        rintro e w2 (⟨s2, rfl, H2, K2, E2⟩ | ⟨_, s2, rfl, H2, K2, E2⟩)
        · go_wp2_with fail
          exact ⟨rfl, TPost.none E2.out ⟨rfl, H2.out, HU.out.trans K2.out⟩⟩
        unfold encU
        clear c0 c1 c2 c3 c4 c5 c6 K0 HE HT HMO
        go_wp2_with fail
        clear h1 HW h2 z1 z3 z4 z5 hm0
        go_loopw [18] (fun t wr => ∃ (k : Nat) (s' : TS), k ≤ x ∧ t = .int .i64 k ∧ Hid (Tape1 wr g B s') ∧ Hid (TK g B w1 wr) ∧ Hid ((downO b lo (x - k)).onT s' = R)) (fun t _ => x - (intOf t).toNat)
        case atStart => exact ⟨0, s2, by omega, rfl, H2, K2, E2⟩
        case round =>
          obtain ⟨k, s', hk, rfl, HTr, HKr, HDr⟩ := hrel
          by_cases hlt : k < x
          · obtain ⟨c0, c1, c2, c3, c4, c5, c6⟩ := HKB.out _ HKr.out
            obtain ⟨m, hm⟩ : ∃ m, x - k = m + 1 := ⟨x - k - 1, by omega⟩
            have HDR := Lib.hid (show ((putO b lo m false).bind fun _ => downO b lo m).onT s' = R by rw [← HDr.out, hm]; rfl)
            have hxb := HXB.out
            have y2 : (x : Int) - 1 - (k : Int) = (m : Int) := by omega
            have hki : (k : Int) < x := by omega
            have hm0 : (0 : Int) ≤ (m : Int) := by omega
            have hm1 : (m : Int) ≤ 255 := by omega
            go_wp2_with fail
            refine (call_step (HPC.out _ _ _ _ HTr.out hm0 hm1) HDR.out).mono ?_
            rintro e w3 (⟨s3, rfl, H3, K3, E3⟩ | ⟨_, s3, rfl, H3, K3, E3⟩)
            · go_wp2_with fail
              exact ⟨rfl, TPost.none E3.out ⟨rfl, H3.out, HU.out.trans (HKr.out.trans K3.out)⟩⟩
            unfold encU
            have K4 := Lib.hid (HKr.out.trans K3.out)
            have E4 := Lib.hid (show (downO b lo (x - (k + 1))).onT s3 = R by rw [show x - (k + 1) = m by omega]; exact E3.out)
            clear c0 c1 c2 c3 c4 c5 c6 hm y2 hm0 hm1
            go_wp2_with fail
            go_roundw
            case rel => exact ⟨k + 1, s3, by omega, by go_num, H3, K4, E4⟩
            case measure => simp [intOf]; omega
          · obtain rfl : k = x := by omega
            have HF := Lib.hid (show (some (), s') = R by rw [← HDr.out, Nat.sub_self]; rfl)
            clear hlt
            go_wp2_with fail
            go_end0
            exact TPost.some HF.out.symm ⟨rfl, HTr.out, HU.out.trans HKr.out⟩

end Go.Proofs.Ytpandnodeldbjaa
