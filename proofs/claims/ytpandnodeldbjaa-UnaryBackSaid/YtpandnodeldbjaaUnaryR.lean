/-
  Package unary: Read, on the program's tape.
-/
import Derived.Test.YtpandnodeldbjaaUnaryA
set_option linter.unusedVariables false
set_option linter.unusedSimpArgs false
namespace Go.Proofs.Ytpandnodeldbjaa
open Go.RowKit

set_option maxRecDepth 10000 in
set_option maxHeartbeats 1000000 in
theorem unaryR_any (k b lo n wr rd tp : Int) (g B : Nat) (s : TS) (w : World) (h : Tape1 w g B s) (hb0 : -1099511627776 ≤ b) (hb1 : b ≤ 1099511627776) (hl0 : -1099511627776 ≤ lo) (hl1 : lo ≤ 1099511627776) :
    Calls Try.prog 36 #[.pointer (some ⟨g, 0, none⟩), regV k b lo n wr rd tp] w (TPost encI g B w ((unR b tp).onT s)) := by
  have hU : Up w (w.alloc (.cells (regC k b lo n wr rd tp) 50)) := (Up.refl w).alloc _
  have hb := reg_box w k b lo n wr rd tp
  have hgs := h.1.gs
  have HT := Lib.hid (h.up hU)
  have HU := Lib.hid (TK.ofUp (g := g) (B := B) hU)
  have HMO := Lib.hid (fun W => most_any tp W)
  have HPC := Lib.hid (fun i s W hT hi0 hi1 => up_any k b lo n wr rd tp i g B s W hT hb0 hb1 hl0 hl1 hi0 hi1)
  have HKB := Lib.hid (fun (w' : World) (k2 : TK g B (w.alloc (.cells (regC k b lo n wr rd tp) 50)) w') => reg_load (k2.one hb (by omega) (.inr (by decide))))
  obtain ⟨R, hR⟩ : ∃ R, (unR b tp).onT s = R := ⟨_, rfl⟩
  rw [hR]
  unfold unR at hR
  have hm := mostI_le tp
  obtain ⟨x, hxe⟩ : ∃ x : Nat, mostI tp = x := ⟨(mostI tp).toNat, by omega⟩
  rw [hxe] at hR hm HMO
  rw [Int.toNat_natCast] at hR
  have HE := Lib.hid hR
  have HXB := Lib.hid (show (x : Int) ≤ 255 by omega)
  unfold regV at HPC ⊢
  unfold regC at *
  obtain ⟨c0, c1, c2, c3, c4, c5, c6⟩ := reg_load hb
  generalize hW : w.alloc (.cells #[.int .i64 k, .int .i64 b, .int .i64 lo, .int .i64 n, .int .i64 wr, .int .i64 rd, .int .i64 tp] 50) = W0 at *
  have HW := Lib.hid hW
  have hx0 : (0 : Int) ≤ (x : Int) := by omega
  have hx1 : (x : Int) ≤ 255 := by omega
  clear h hU hR hb hb0 hb1 hl0 hl1 hW hxe hm
  go_enter Try.func36, Try.ntmps36
  go_wp2_with fail
  rw [HW.out]
  go_wp2_with fail
  refine (HMO.out _).mono ?_
  rintro e w1 ⟨rfl, rfl⟩
  clear c0 c1 c2 c3 c4 c5 c6
  go_wp2_with fail
  clear hx0 hx1
  go_loopw [12] (fun t wr => ∃ (k : Nat) (s' : TS), k ≤ x + 1 ∧ t = .int .i64 k ∧ Hid (Tape1 wr g B s') ∧ Hid (TK g B w1 wr) ∧ Hid ((lookO b x (x + 1 - k) k).onT s' = R)) (fun t _ => x + 1 - (intOf t).toNat)
  case atStart => exact ⟨0, s, by omega, rfl, HT, Lib.hid (TK.refl _ _ _), HE⟩
  case round =>
    obtain ⟨k, s', hk, rfl, HTr, HKr, HDr⟩ := hrel
    by_cases hlt : k < x + 1
    · obtain ⟨c0, c1, c2, c3, c4, c5, c6⟩ := HKB.out _ HKr.out
      obtain ⟨m, hm⟩ : ∃ m, x + 1 - k = m + 1 := ⟨x - k, by omega⟩
      have HDR := Lib.hid (show ((stRO (b + (k : Int))).bind fun y => if upB k y = true then Op.ret (k : Int) else lookO b x m ((k : Int) + 1)).onT s' = R by rw [← HDr.out, hm]; rfl)
      have hxb := HXB.out
      have hki : (k : Int) < (x : Int) + 1 := by omega
      have hm0 : (0 : Int) ≤ (k : Int) := by omega
      have hm1 : (k : Int) ≤ 255 := by omega
      have HC := Lib.hid (HPC.out (k : Int) s' wr HTr.out hm0 hm1)
      go_wp2_with fail
      refine HC.out.mono ?_
      intro e w3 q
      obtain ⟨P, hP⟩ : ∃ P, ((stRO (b + (k : Int))).bind fun y => Op.ret (upB k y)).onT s' = P := ⟨_, rfl⟩
      rw [hP] at q
      have hP2 := Lib.hid hP
      rw [onT_bind] at hP
      have hD := HDR.out
      rw [onT_bind] at hD
      rcases q.two with ⟨v, s3, hr, rfl, h1, k1⟩ | ⟨s3, hr, rfl, h1, k1⟩
      · subst hr
        cases ho : (stRO (b + (k : Int))).onT s' with
        | mk o s4 =>
          rw [ho] at hP hD
          cases o with
          | none => simp [andT] at hP
          | some y =>
            have hP3 : (some (upB k y), s4) = (some v, s3) := hP
            simp only [Prod.mk.injEq, Option.some.injEq] at hP3
            obtain ⟨rfl, rfl⟩ := hP3
            have hD2 : (if upB k y = true then Op.ret (k : Int) else lookO b x m ((k : Int) + 1)).onT s4 = R := hD
            have H1 := Lib.hid h1
            have K1 := Lib.hid (HKr.out.trans k1)
            obtain ⟨u, hu⟩ : ∃ u, upB k y = u := ⟨_, rfl⟩
            rw [hu] at hD2 ⊢
            cases u
            · have HD2 := Lib.hid (else_onT (by simp) hD2)
              clear q hP hP2 hD hD2 ho h1 k1 hu c0 c1 c2 c3 c4 c5 c6
              unfold encB
              go_wp2_with fail
              go_roundw
              case rel => exact ⟨k + 1, s4, by omega, by go_num, H1, K1, Lib.hid (by rw [show x + 1 - (k + 1) = m by omega]; exact HD2.out)⟩
              case measure => simp [intOf]; omega
            · have HD2 := Lib.hid (if_onT (by rfl) hD2)
              clear q hP hP2 hD hD2 ho h1 k1 hu c0 c1 c2 c3 c4 c5 c6
              unfold encB
              go_wp2_with fail
              go_ret
              exact TPost.some HD2.out.symm ⟨rfl, H1.out, HU.out.trans K1.out⟩
      · subst hr
        cases ho : (stRO (b + (k : Int))).onT s' with
        | mk o s4 =>
          rw [ho] at hP hD
          cases o with
          | some y => simp [andT, Op.onT] at hP
          | none =>
            have hP3 : ((none : Option Bool), s4) = (none, s3) := hP
            simp only [Prod.mk.injEq, true_and] at hP3
            subst hP3
            have HD2 := Lib.hid (show (none, s4) = R from hD)
            have H1 := Lib.hid h1
            have K1 := Lib.hid (HKr.out.trans k1)
            clear q hP hP2 hD ho h1 k1 c0 c1 c2 c3 c4 c5 c6
            go_wp2_with fail
            exact ⟨rfl, TPost.none HD2.out.symm ⟨rfl, H1.out, HU.out.trans K1.out⟩⟩
    · obtain rfl : k = x + 1 := by omega
      have HF := Lib.hid (show (some (x : Int), s') = R by rw [← HDr.out, Nat.sub_self]; rfl)
      clear hlt
      go_wp2_with fail
      go_ret
      exact TPost.some HF.out.symm ⟨rfl, HTr.out, HU.out.trans HKr.out⟩

end Go.Proofs.Ytpandnodeldbjaa
