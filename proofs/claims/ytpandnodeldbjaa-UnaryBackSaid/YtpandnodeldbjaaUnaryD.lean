/-
  The document's unary: Read and Write.
-/
import Derived.Test.YtpandnodeldbjaaUnaryA
import Derived.Test.YtpandnodeldbjaaInts
set_option linter.unusedVariables false
set_option linter.unusedSimpArgs false
namespace Go.Proofs.Ytpandnodeldbjaa
open Go.RowKit

theorem clamp_any (n top : Int) (w : World) : Calls Try.prog 41 #[.int .i64 n, .int .i64 top] w fun e w' => e = .returned (.int .i64 (clampI n 0 (clampI top 0 1099511627776))) ∧ w' = w := by
  have C1 := Lib.hid (within_any top 0 1099511627776 w)
  have C2 := Lib.hid (within_any n 0 (clampI top 0 1099511627776) w)
  go_enter Try.func41, Try.ntmps41
  go_wp2_with fail
  refine C1.out.mono ?_
  rintro e w1 ⟨rfl, rfl⟩
  go_wp2_with fail
  refine C2.out.mono ?_
  rintro e w1 ⟨rfl, rfl⟩
  go_wp2_with fail
  go_ret
  exact ⟨rfl, rfl⟩
theorem clamp255 : clampI 255 0 1099511627776 = 255 := by decide
theorem clampM (tp : Int) : clampI (mostI tp) 0 1099511627776 = mostI tp := by
  have := mostI_le tp
  unfold clampI
  rw [if_neg (by omega), if_neg (by omega)]

theorem putO_onR (b lo i : Int) (up : Bool) (r : RS) : ((putO b lo i up).onR r).2 = rstW (b + i) (lo + i) (putV i up) r := stWO_onR _ _ _ _

/-- What is left of a write, from bit j - 1 on down. -/
def restO (b lo : Int) (x : Nat) (j : Nat) : Op Unit := if j = x + 1 then (putO b lo x true).bind fun _ => downO b lo x else downO b lo j
theorem restO_step (b lo : Int) (x m : Nat) (hm : m ≤ x) : restO b lo x (m + 1) = (putO b lo m (m == x)).bind fun _ => restO b lo x m := by
  unfold restO
  by_cases h : m = x
  · subst h
    rw [if_pos rfl, if_neg (by omega)]
    simp
  · rw [if_neg (by omega), if_neg (by omega)]
    have : (m == x) = false := by rw [beq_eq_false_iff_ne]; exact h
    rw [this]
    rfl

set_option maxRecDepth 10000 in
set_option maxHeartbeats 1000000 in
theorem runaryW_any (k b lo n wr rd tp v : Int) (h B : Nat) (r : RS) (w : World) (H : RefIs w h B r) (hb0 : -1099511627776 ≤ b) (hb1 : b ≤ 1099511627776) (hl0 : -1099511627776 ≤ lo) (hl1 : lo ≤ 1099511627776) :
    Calls Try.prog 39 #[.pointer (some ⟨h, 0, none⟩), regV k b lo n wr rd tp, .int .i64 v] w (RPost (.tuple #[]) h B w ((unW b lo tp v).onR r).2) := by
  have hU : Up w (w.alloc (.cells (regC k b lo n wr rd tp) 50)) := (Up.refl w).alloc _
  have hb := reg_box w k b lo n wr rd tp
  have hgs := H.c.hs
  have HT := Lib.hid (H.up hU)
  have HU := Lib.hid (TK.ofUp (g := h) (B := B) hU)
  have HC1 := Lib.hid (fun W => (show Calls Try.prog 41 #[.int .i64 tp, .int .i64 255] W fun e w' => e = .returned (.int .i64 (mostI tp)) ∧ w' = W by
    have := clamp_any tp 255 W
    rw [clamp255] at this
    exact this))
  have HC2 := Lib.hid (fun W => (show Calls Try.prog 41 #[.int .i64 v, .int .i64 (mostI tp)] W fun e w' => e = .returned (.int .i64 (unV tp v)) ∧ w' = W by
    have := clamp_any v (mostI tp) W
    rw [clampM] at this
    exact this))
  have HKB := Lib.hid (fun (w' : World) (k2 : TK h B (w.alloc (.cells (regC k b lo n wr rd tp) 50)) w') => reg_load (k2.one hb (by omega) (.inr (by decide))))
  have HPC := Lib.hid (fun i up r W hT => rsteadyW_any 0 (b + i) (lo + i) 0 0 0 0 (putV i up) h B r W hT)
  obtain ⟨R, hR⟩ : ∃ R, (unW b lo tp v).onR r = R := ⟨_, rfl⟩
  rw [hR]
  unfold unW at hR
  have hx := unV_le tp v
  have hm := mostI_le tp
  obtain ⟨x, hxe⟩ : ∃ x : Nat, unV tp v = x := ⟨(unV tp v).toNat, by omega⟩
  rw [hxe] at hR hx HC2
  rw [Int.toNat_natCast] at hR
  have HE := Lib.hid (show (restO b lo x (x + 1)).onR r = R by unfold restO; rw [if_pos rfl]; exact hR)
  generalize mostI tp = mo at *
  have HXB := Lib.hid (show (x : Int) ≤ 255 by omega)
  have HBD := Lib.hid (show -1099511627776 ≤ b ∧ b ≤ 1099511627776 ∧ -1099511627776 ≤ lo ∧ lo ≤ 1099511627776 from ⟨hb0, hb1, hl0, hl1⟩)
  unfold regV at HPC ⊢
  unfold regC at *
  obtain ⟨c0, c1, c2, c3, c4, c5, c6⟩ := reg_load hb
  generalize hW : w.alloc (.cells #[.int .i64 k, .int .i64 b, .int .i64 lo, .int .i64 n, .int .i64 wr, .int .i64 rd, .int .i64 tp] 50) = W0 at *
  have HW := Lib.hid hW
  clear H hU hR hb hb0 hb1 hl0 hl1 hW hxe hx hm
  go_enter Try.func39, Try.ntmps39
  go_wp2_with fail
  rw [HW.out]
  go_wp2_with fail
  refine (HC1.out _).mono ?_
  rintro e w1 ⟨rfl, rfl⟩
  go_wp2_with fail
  refine (HC2.out _).mono ?_
  rintro e w1 ⟨rfl, rfl⟩
  clear c0 c1 c2 c3 c4 c5 c6 HC1 HC2
  go_wp2_with fail
  clear HW
  go_loopw [7] (fun t wr => ∃ (j : Nat) (r' : RS), j ≤ x + 1 ∧ t = .int .i64 ((j : Int) - 1) ∧ Hid (RefIs wr h B r') ∧ Hid (TK h B w1 wr) ∧ Hid ((restO b lo x j).onR r' = R)) (fun t _ => (intOf t + 1).toNat)
  case atStart => exact ⟨x + 1, r, by omega, by congr 1; omega, HT, Lib.hid (TK.refl _ _ _), HE⟩
  case round =>
    obtain ⟨j, r', hj, rfl, HTr, HKr, HDr⟩ := hrel
    rcases Nat.eq_zero_or_pos j with hj0 | hj0
    · subst hj0
      have HF := Lib.hid (show ((), r') = R by rw [← HDr.out]; unfold restO; rw [if_neg (by omega)]; rfl)
      go_wp2_with fail
      go_end0
      have HF2 := HF.out
      subst HF2
      exact ⟨rfl, HTr.out, HU.out.trans HKr.out⟩
    obtain ⟨m, rfl⟩ : ∃ m, j = m + 1 := ⟨j - 1, by omega⟩
    rw [show ((m + 1 : Nat) : Int) - 1 = (m : Int) by omega]
    have hmx : m ≤ x := by omega
    have HDR := Lib.hid (show (restO b lo x m).onR (rstW (b + m) (lo + m) (putV m (m == x)) r') = R by rw [← HDr.out, restO_step b lo x m hmx, onR_bind, putO_onR])
    have HC := Lib.hid (HPC.out (m : Int) (m == x) r' wr HTr.out)
    obtain ⟨c0, c1, c2, c3, c4, c5, c6⟩ := HKB.out _ HKr.out
    have x1 : wrap64 (b + (m : Int)) = b + m := IntWalk.wrap64_in _ (by have := HBD.out; have := HXB.out; omega)
    have x2 : wrap64 (lo + (m : Int)) = lo + m := IntWalk.wrap64_in _ (by have := HBD.out; have := HXB.out; omega)
    have x3 : wrap64 ((m : Int) - 1) = (m : Int) - 1 := IntWalk.wrap64_in _ (by have := HXB.out; omega)
    have hcase : (m = x ∧ m = 0 ∧ putV m (m == x) = 0) ∨ (m = x ∧ 0 < m ∧ putV m (m == x) = 1) ∨ (m < x ∧ m = 0 ∧ putV m (m == x) = 1) ∨ (m < x ∧ 0 < m ∧ putV m (m == x) = 0) := by
      unfold putV
      by_cases h1 : m = x
      · have e1 : (m == x) = true := by simp [h1]
        rw [e1]
        rcases Nat.eq_zero_or_pos m with h2 | h2
        · exact .inl ⟨h1, h2, by simp [h2]⟩
        · have e2 : ((m : Int) == 0) = false := by rw [beq_eq_false_iff_ne]; omega
          exact .inr (.inl ⟨h1, h2, by rw [e2]; rfl⟩)
      · have e1 : (m == x) = false := by rw [beq_eq_false_iff_ne]; exact h1
        rw [e1]
        rcases Nat.eq_zero_or_pos m with h2 | h2
        · exact .inr (.inr (.inl ⟨by omega, h2, by simp [h2]⟩))
        · have e2 : ((m : Int) == 0) = false := by rw [beq_eq_false_iff_ne]; omega
          exact .inr (.inr (.inr ⟨by omega, h2, by rw [e2]; rfl⟩))
    have hrel2 : ∀ wr8 (k8 : TK h B w1 wr8) (r8 : RS) (H8 : RefIs wr8 h B r8) (E : (restO b lo x m).onR r8 = R), ∃ (j : Nat) (r' : RS), j ≤ x + 1 ∧ Value.int .i64 ((m : Int) - 1) = .int .i64 ((j : Int) - 1) ∧ Hid (RefIs wr8 h B r') ∧ Hid (TK h B w1 wr8) ∧ Hid ((restO b lo x j).onR r' = R) :=
      fun wr8 k8 r8 H8 E => ⟨m, r8, by omega, rfl, Lib.hid H8, Lib.hid k8, Lib.hid E⟩
    have HREL := Lib.hid hrel2
    have hmeas : ((m : Int) - 1 + 1).toNat < ((m : Int) + 1).toNat := by omega
    have HMEAS := Lib.hid hmeas
    clear hrel2 hmeas HDr HPC hj hj0 hmx
    rcases hcase with ⟨rfl, rfl, hp⟩ | ⟨rfl, hpos, hp⟩ | ⟨hlt, rfl, hp⟩ | ⟨hlt, hpos, hp⟩
    · rw [hp] at HC HDR
      simp only [Int.natCast_zero, Int.add_zero] at HC HDR x1 x2 x3 HREL HMEAS ⊢
      clear hp
      have HCC := HC
      clear HC
      go_wp2_with fail
      refine HCC.out.mono ?_
      rintro e w8 ⟨rfl, h8, k8⟩
      have H8 := Lib.hid h8
      have K8 := Lib.hid (HKr.out.trans k8)
      clear h8 k8 c0 c1 c2 c3 c4 c5 c6
      go_wp2_with fail
      go_roundw
      case rel => try rw [x3]
                  exact HREL.out _ K8.out _ H8.out HDR.out
      case measure => simp [intOf]; try omega
    · rw [hp] at HC HDR
      have y1 : ((0 : Int) < (m : Int)) = True := by simp; omega
      have y2 : (0 < m) = True := by simp; omega
      clear hp
      have HCC := HC
      clear HC
      go_wp2_with fail
      refine HCC.out.mono ?_
      rintro e w8 ⟨rfl, h8, k8⟩
      have H8 := Lib.hid h8
      have K8 := Lib.hid (HKr.out.trans k8)
      clear h8 k8 c0 c1 c2 c3 c4 c5 c6
      go_wp2_with fail
      go_roundw
      case rel => try rw [x3]
                  exact HREL.out _ K8.out _ H8.out HDR.out
      case measure => simp [intOf]; try omega
    · rw [hp] at HC HDR
      simp only [Int.natCast_zero, Int.add_zero] at HC HDR x1 x2 x3 HREL HMEAS ⊢
      have y1 : ((0 : Int) < (x : Int)) = True := by simp; omega
      have y2 : (0 < x) = True := by simp; omega
      have y3 : ((0 : Int) == (x : Int)) = false := by rw [beq_eq_false_iff_ne]; omega
      clear hp
      have HCC := HC
      clear HC
      go_wp2_with fail
      refine HCC.out.mono ?_
      rintro e w8 ⟨rfl, h8, k8⟩
      have H8 := Lib.hid h8
      have K8 := Lib.hid (HKr.out.trans k8)
      clear h8 k8 c0 c1 c2 c3 c4 c5 c6
      go_wp2_with fail
      go_roundw
      case rel => try rw [x3]
                  exact HREL.out _ K8.out _ H8.out HDR.out
      case measure => simp [intOf]; try omega
    · rw [hp] at HC HDR
      have y1 : ((m : Int) < (x : Int)) = True := by simp; omega
      have y2 : (m < x) = True := by simp; omega
      have y3 : ((m : Int) == (x : Int)) = false := by rw [beq_eq_false_iff_ne]; omega
      have y4 : ((m : Int) == 0) = false := by rw [beq_eq_false_iff_ne]; omega
      clear hp
      have HCC := HC
      clear HC
      go_wp2_with fail
      refine HCC.out.mono ?_
      rintro e w8 ⟨rfl, h8, k8⟩
      have H8 := Lib.hid h8
      have K8 := Lib.hid (HKr.out.trans k8)
      clear h8 k8 c0 c1 c2 c3 c4 c5 c6
      go_wp2_with fail
      go_roundw
      case rel => try rw [x3]
                  exact HREL.out _ K8.out _ H8.out HDR.out
      case measure => simp [intOf]; try omega

set_option maxRecDepth 10000 in
set_option maxHeartbeats 1000000 in
theorem runaryR_any (k b lo n wr rd tp : Int) (h B : Nat) (r : RS) (w : World) (H : RefIs w h B r) (hb0 : -1099511627776 ≤ b) (hb1 : b ≤ 1099511627776) (hl0 : -1099511627776 ≤ lo) (hl1 : lo ≤ 1099511627776) :
    Calls Try.prog 38 #[.pointer (some ⟨h, 0, none⟩), regV k b lo n wr rd tp] w (RPost (.int .i64 ((unR b tp).onR r).1) h B w ((unR b tp).onR r).2) := by
  have hU : Up w (w.alloc (.cells (regC k b lo n wr rd tp) 50)) := (Up.refl w).alloc _
  have hb := reg_box w k b lo n wr rd tp
  have hgs := H.c.hs
  have HT := Lib.hid (H.up hU)
  have HU := Lib.hid (TK.ofUp (g := h) (B := B) hU)
  have HC1 := Lib.hid (fun W => (show Calls Try.prog 41 #[.int .i64 tp, .int .i64 255] W fun e w' => e = .returned (.int .i64 (mostI tp)) ∧ w' = W by
    have := clamp_any tp 255 W
    rw [clamp255] at this
    exact this))
  have HKB := Lib.hid (fun (w' : World) (k2 : TK h B (w.alloc (.cells (regC k b lo n wr rd tp) 50)) w') => reg_load (k2.one hb (by omega) (.inr (by decide))))
  obtain ⟨R, hR⟩ : ∃ R, (unR b tp).onR r = R := ⟨_, rfl⟩
  rw [hR]
  unfold unR at hR
  have hm := mostI_le tp
  obtain ⟨x, hxe⟩ : ∃ x : Nat, mostI tp = x := ⟨(mostI tp).toNat, by omega⟩
  rw [hxe] at hR hm HC1
  rw [Int.toNat_natCast] at hR
  have HE := Lib.hid hR
  have HXB := Lib.hid (show (x : Int) ≤ 255 by omega)
  have HBD := Lib.hid (show -1099511627776 ≤ b ∧ b ≤ 1099511627776 from ⟨hb0, hb1⟩)
  unfold regV
  unfold regC at *
  obtain ⟨c0, c1, c2, c3, c4, c5, c6⟩ := reg_load hb
  generalize hW : w.alloc (.cells #[.int .i64 k, .int .i64 b, .int .i64 lo, .int .i64 n, .int .i64 wr, .int .i64 rd, .int .i64 tp] 50) = W0 at *
  have HW := Lib.hid hW
  clear H hU hR hb hb0 hb1 hl0 hl1 hW hxe hm
  go_enter Try.func38, Try.ntmps38
  go_wp2_with fail
  rw [HW.out]
  go_wp2_with fail
  refine (HC1.out _).mono ?_
  rintro e w1 ⟨rfl, rfl⟩
  clear c0 c1 c2 c3 c4 c5 c6 HC1
  go_wp2_with fail
  clear HW
  go_loopw [6] (fun t wr => ∃ (k : Nat) (r' : RS), k ≤ x + 1 ∧ t = .int .i64 k ∧ Hid (RefIs wr h B r') ∧ Hid (TK h B w1 wr) ∧ Hid ((lookO b x (x + 1 - k) k).onR r' = R)) (fun t _ => x + 1 - (intOf t).toNat)
  case atStart => exact ⟨0, r, by omega, rfl, HT, Lib.hid (TK.refl _ _ _), HE⟩
  case round =>
    obtain ⟨k, r', hk, rfl, HTr, HKr, HDr⟩ := hrel
    by_cases hlt : k < x + 1
    · obtain ⟨c0, c1, c2, c3, c4, c5, c6⟩ := HKB.out _ HKr.out
      obtain ⟨m, hm⟩ : ∃ m, x + 1 - k = m + 1 := ⟨x - k, by omega⟩
      have HDR := Lib.hid (show (Op.ask (1, b + (k : Int), 0) fun y => if upB k y = true then Op.ret (k : Int) else lookO b x m ((k : Int) + 1)).onR r' = R by rw [← HDr.out, hm]; rfl)
      have hxb := HXB.out
      have hki : (k : Int) ≤ (x : Int) := by omega
      have hkn : k ≤ x := by omega
      have hm0 : (0 : Int) ≤ (k : Int) := by omega
      have x1 : wrap64 (b + (k : Int)) = b + k := IntWalk.wrap64_in _ (by have := HBD.out; omega)
      go_wp2_with fail
      refine (rread_step HTr.out HDR.out).mono ?_
      rintro e w3 ⟨y, s3, rfl, H3, K3, E3⟩
      have K4 := Lib.hid (HKr.out.trans K3.out)
      have hcase : ((k = 0 ∧ (y == 1) = false) ∨ (0 < k ∧ y = 1) ∨ (k = 0 ∧ y = 1) ∨ (0 < k ∧ (y == 1) = false)) := by
        by_cases hy : y = 1
        · rcases Nat.eq_zero_or_pos k with h | h
          · exact .inr (.inr (.inl ⟨h, hy⟩))
          · exact .inr (.inl ⟨h, hy⟩)
        · have : (y == 1) = false := by rw [beq_eq_false_iff_ne]; exact hy
          rcases Nat.eq_zero_or_pos k with h | h
          · exact .inl ⟨h, this⟩
          · exact .inr (.inr (.inr ⟨h, this⟩))
      have HUB : Hid (upB k y = ((y == 1) != ((k : Int) == 0))) := Lib.hid rfl
      clear c0 c1 c2 c3 c4 c5 c6 HDR
      rcases hcase with ⟨rfl, hy⟩ | ⟨h0, rfl⟩ | ⟨rfl, rfl⟩ | ⟨h0, hy⟩
      · have E4 := Lib.hid (if_onR (by rw [HUB.out, hy]; rfl) E3.out)
        have hy2 : (y != 1) = true := by simp [bne, hy]
        have hy3 : ¬ y = 1 := by intro e; subst e; simp at hy
        simp only [Int.natCast_zero, Int.add_zero] at x1 hki ⊢
        go_wp2_with fail
        go_ret
        have HF := E4.out
        subst HF
        exact ⟨rfl, H3.out, HU.out.trans K4.out⟩
      · have y4 : ((k : Int) == 0) = false := by rw [beq_eq_false_iff_ne]; omega
        have E4 := Lib.hid (if_onR (by rw [HUB.out, y4]; rfl) E3.out)
        go_wp2_with fail
        go_ret
        have HF := E4.out
        subst HF
        exact ⟨rfl, H3.out, HU.out.trans K4.out⟩
      · have E4 := Lib.hid (else_onR (by rw [HUB.out]; decide) E3.out)
        have HM := Lib.hid hm
        have HREL := Lib.hid (show ∃ (k : Nat) (r' : RS), k ≤ x + 1 ∧ Value.int .i64 1 = .int .i64 k ∧ Hid (RefIs w3 h B r') ∧ Hid (TK h B w1 w3) ∧ Hid ((lookO b x (x + 1 - k) k).onR r' = R) from ⟨1, s3, by omega, rfl, H3, K4, Lib.hid (by rw [show x + 1 - 1 = m by omega]; exact E4.out)⟩)
        clear hm hkn
        simp only [Int.natCast_zero, Int.add_zero] at x1 hki ⊢
        go_wp2_with fail
        go_roundw
        case rel => exact HREL.out
        case measure => simp [intOf]
      · have y4 : ((k : Int) == 0) = false := by rw [beq_eq_false_iff_ne]; omega
        have y5 : ((0 : Int) < (k : Int)) = True := by simp; omega
        have y6 : (0 < k) = True := by simp; omega
        have E4 := Lib.hid (else_onR (by rw [HUB.out, y4, hy]; decide) E3.out)
        have HM := Lib.hid hm
        have HREL := Lib.hid (show ∃ (k' : Nat) (r' : RS), k' ≤ x + 1 ∧ Value.int .i64 ((k : Int) + 1) = .int .i64 k' ∧ Hid (RefIs w3 h B r') ∧ Hid (TK h B w1 w3) ∧ Hid ((lookO b x (x + 1 - k') k').onR r' = R) from ⟨k + 1, s3, by omega, by go_num, H3, K4, Lib.hid (by rw [show x + 1 - (k + 1) = m by omega]; exact E4.out)⟩)
        clear hm
        go_wp2_with fail
        go_roundw
        case rel => exact HREL.out
        case measure => simp [intOf]; omega
    · obtain rfl : k = x + 1 := by omega
      have HF := Lib.hid (show ((x : Int), r') = R by rw [← HDr.out, Nat.sub_self]; rfl)
      have z1 : (((x + 1 : Nat) : Int) ≤ (x : Int)) = False := by simp; omega
      clear hlt
      go_wp2_with fail
      go_ret
      have HF2 := HF.out
      subst HF2
      exact ⟨rfl, HTr.out, HU.out.trans HKr.out⟩

end Go.Proofs.Ytpandnodeldbjaa
