/-
  Package wire: the document's Reader: a number.
-/
import Derived.Test.YtjbphkcbfhhgbaaWireH
set_option linter.unusedVariables false
set_option linter.unusedSimpArgs false
namespace Go.Proofs.Ytjbphkcbfhhgbaa
open Go.RowKit

theorem numS_of_fault {l : List UInt8} {m : Int} {f : Nat} (h : numL 0 0 l = (0, 0, f)) (hf : f ≠ 0) : numS (l, 0) m = (0, (l, (f : Int))) := by
  have he : errOf (numL 0 0 l) m = f := by rw [h]; unfold errOf; rw [if_neg hf]
  rw [numS_fault (l, 0) m rfl (by rw [he]; omega), he]

theorem numS_of_last {l : List UInt8} {m : Int} {k acc : Nat} (h : numL 0 0 l = numL k acc (l.drop k)) (hk : k < l.length) (hk5 : k < 5) (hc : (l.getD k 0).toNat < 128) :
    numS (l, 0) m = lastS l k ((acc : Int) + ((128 ^ k : Nat) : Int) * ((l.getD k 0).toNat : Int)) m := by
  rw [numL_step l k acc hk, if_neg (by omega), if_neg (by omega)] at h
  generalize hcd : (l.getD k 0).toNat = c at *
  have hx : (((acc + c % 128 * 128 ^ k : Nat)) : Int) = (acc : Int) + ((128 ^ k : Nat) : Int) * (c : Int) := by
    rw [Nat.mod_eq_of_lt hc, Int.natCast_add, Int.natCast_mul, Int.mul_comm]
  rw [← hx]
  generalize hX : acc + c % 128 * 128 ^ k = X at *
  by_cases hz : c = 0 ∧ 0 < k
  · rw [if_pos hz] at h
    rw [numS_of_fault h (by decide)]
    unfold lastS
    rw [hcd, if_pos hz]; rfl
  · rw [if_neg hz] at h
    unfold lastS
    rw [hcd, if_neg hz]
    by_cases hm : m < (X : Int)
    · rw [if_pos hm, numS_fault (l, 0) m rfl (by rw [h]; unfold errOf; simp [hm]), h]
      unfold errOf
      simp [hm]
    · rw [if_neg hm]
      by_cases hb : 1073741823 < (X : Int)
      · have hb' : 1073741823 < X := by omega
        rw [if_pos hb, numS_fault (l, 0) m rfl (by rw [h]; unfold errOf; simp [hm, hb']), h]
        unfold errOf
        simp [hm, hb']
      · have hb' : ¬ 1073741823 < X := by omega
        rw [if_neg hb, numS_ok (l, 0) m rfl (by rw [h]; unfold errOf; simp [hm, hb']), h]

theorem pow_next {acc k c : Nat} (hk : k ≤ 4) (ha : acc < 128 ^ k) (hc0 : 128 ≤ c) (hc : c < 256) :
    acc + c % 128 * 128 ^ k < 128 ^ (k + 1) ∧ (acc : Int) + ((128 ^ k : Nat) : Int) * ((c : Int) - 128) = ((acc + c % 128 * 128 ^ k : Nat) : Int) ∧ 128 ^ k ≤ 268435456 ∧ 0 ≤ ((128 ^ k : Nat) : Int) * ((c : Int) - 128) ∧ ((128 ^ k : Nat) : Int) * ((c : Int) - 128) ≤ 34359738368 := by
  have h1 : c % 128 = c - 128 := by omega
  have hp : 128 ^ k ≤ 268435456 := by
    have := Nat.pow_le_pow_right (n := 128) (by decide) hk
    have e : (128 : Nat) ^ 4 = 268435456 := by decide
    omega
  have hm : c % 128 * 128 ^ k ≤ 127 * 128 ^ k := Nat.mul_le_mul_right _ (by omega)
  have hz : ((128 ^ k : Nat) : Int) * ((c : Int) - 128) = ((c % 128 * 128 ^ k : Nat) : Int) := by
    rw [Int.natCast_mul, Int.mul_comm]
    congr 1
    omega
  refine ⟨by rw [Nat.pow_succ]; omega, by rw [hz]; omega, hp, by rw [hz]; omega, by rw [hz]; omega⟩

set_option maxHeartbeats 2000000 in
set_option maxRecDepth 100000 in
theorem rnum_any (h C : Nat) (m : Int) (s : List UInt8 × Int) (w : World) (r : RefIs w h C s) :
    Calls Try.prog 17 #[.pointer (some ⟨h, 0, none⟩), .int .i64 m] w fun e w' => RefPost h C (.int .i64 (numS s m).1) (numS s m).2 w e w' := by
  have HR := Lib.hid r
  have c1 := r.c1
  obtain ⟨l, e⟩ := s
  simp only at c1
  by_cases he : e = 0
  · subst he
    obtain ⟨A, c, c0, hrw, h2, h3, h4⟩ := r.rest rfl
    simp only at c0 hrw h2 h3 h4
    have hl3 : l.length ≤ 9223372036854775807 := by omega
    have HF := Lib.hid (fun (W : World) (s' : List UInt8 × Int) (e0 : Int) (r : RefIs W h C s') => rfail_any h C e0 s' W r)
    have HLA := Lib.hid (fun i q n p hi hi4 hq hq2 hn0 hn1 h5 h6 => last_any h C i q n p m l w r hi hi4 hq hq2 hn0 hn1 h5 h6)
    have HRW := Lib.hid hrw
    obtain ⟨N, hN⟩ : ∃ N, l.length = N := ⟨_, rfl⟩
    rw [hN] at c0 hl3 HRW HLA h2
    have HN := Lib.hid hN
    clear hN hrw h4 r
    go_enter Try.func17, Try.ntmps17
    go_wp2_with fail
    go_loop [5, 6, 7] (fun vn vp vi => ∃ k acc P : Nat, k ≤ N ∧ k ≤ 5 ∧ vn = .int .i64 acc ∧ vp = .int .i64 P ∧ vi = .int .i64 k ∧ Hid (P = 128 ^ k) ∧ Hid (acc < 128 ^ k) ∧ Hid (numL 0 0 l = numL k acc (l.drop k))) (fun _ _ vi => 5 - (intOf vi).toNat)
    case atStart => exact ⟨0, 0, 1, by omega, by omega, rfl, rfl, rfl, Lib.hid rfl, Lib.hid (by decide), Lib.hid rfl⟩
    case round =>
      obtain ⟨k, acc, P, hk, hk5, rfl, rfl, rfl, HP, HACC, HK⟩ := hrel
      by_cases h5 : k = 5
      · subst h5
        by_cases hN5 : N = 5
        · subst hN5
          have HS := Lib.hid (numS_of_fault (m := m) (l := l) (f := 4) (by have h := numL_end l acc; rw [HN.out] at h; exact HK.out.trans h) (by decide))
          go_wp2_with fail
          refine (HF.out _ (l, 0) _ HR.out).mono ?_
          rintro e w' ⟨rfl, hr', hk', hs', hb'⟩
          go_wp2_with fail
          go_ret
          rw [HS.out]
          exact ⟨rfl, hr', hk', hs', hb'⟩
        · have hgt : (5 : Int) < (N : Int) := by omega
          have HS := Lib.hid (numS_of_fault (m := m) (l := l) (f := 3) (HK.out.trans (by rw [numL_step l 5 acc (by rw [HN.out]; omega)]; rfl)) (by decide))
          go_wp2_with fail
          refine (HF.out _ (l, 0) _ HR.out).mono ?_
          rintro e w' ⟨rfl, hr', hk', hs', hb'⟩
          go_wp2_with fail
          refine (HF.out _ (l, 3) _ hr').mono ?_
          rintro e w2 ⟨rfl, hr2, hk2, hs2, hb2⟩
          go_wp2_with fail
          go_ret
          rw [HS.out]
          exact ⟨rfl, hr2, hk'.trans hk2 (by omega), hs2.trans hs', hb'.trans hb2⟩
      · have hlt5 : (k : Int) < 5 := by omega
        by_cases hlt : k < N
        · obtain ⟨b, off, rfl, hc⟩ := HRW.out k hlt
          unfold BVal at hc
          have hb := (l.getD k 0).toNat_lt
          have HLE := Lib.hid (show k < l.length by rw [HN.out]; exact hlt)
          have HST := Lib.hid (numL_step l k acc HLE.out)
          by_cases h128 : (l.getD k 0).toNat < 128
          · have HS := Lib.hid (numS_of_last (m := m) HK.out HLE.out (by omega) h128)
            obtain ⟨q, hq⟩ : ∃ q, (l.getD k 0).toNat = q := ⟨_, rfl⟩
            have HQ := Lib.hid hq
            rw [hq] at hc hb h128 HS
            have h128' : (q : Int) < 128 := by omega
            have HC2 := Lib.hid (HLA.out k q acc P hlt (by omega) hq h128 (by omega) (by
              have h1 := HACC.out
              have h2 := Nat.pow_le_pow_right (n := 128) (by decide) (show k ≤ 4 by omega)
              have e : (128 : Nat) ^ 4 = 268435456 := by decide
              omega) (by rw [← Int.natCast_mul]; omega) (by
              have h1 := HP.out
              have h2 := Nat.pow_le_pow_right (n := 128) (by decide) (show k ≤ 4 by omega)
              have e : (128 : Nat) ^ 4 = 268435456 := by decide
              have h3 : P * q ≤ 268435456 * 127 := Nat.mul_le_mul (by omega) (by omega)
              rw [← Int.natCast_mul]; omega))
            clear hq HST
            go_wp2_with fail
            refine HC2.out.mono ?_
            rintro e w' ⟨rfl, hr', hk', hs', hb'⟩
            go_wp2_with fail
            go_ret
            rw [HS.out, ← HP.out]
            exact ⟨rfl, hr', hk', hs', hb'⟩
          · generalize (l.getD k 0).toNat = q at *
            obtain ⟨p1, p2, p3, p4, p5⟩ := pow_next (k := k) (acc := acc) (c := q) (by omega) HACC.out (by omega) (by omega)
            have HN1 := Lib.hid p1
            rw [← HP.out] at p2 p3 p4 p5
            have HEQ := Lib.hid p2
            have hacc : (acc : Int) < 268435456 := by have := HACC.out; rw [← HP.out] at this; omega
            have hge : ¬ (q : Int) < 128 := by omega
            have hP : (P : Int) ≤ 268435456 := by omega
            have HK2 := Lib.hid (HK.out.trans HST.out)
            have q1 : wrap64 ((q : Int) - 128) = (q : Int) - 128 := IntWalk.wrap64_in _ ⟨by omega, by omega⟩
            have q2 : wrap64 ((P : Int) * ((q : Int) - 128)) = (P : Int) * ((q : Int) - 128) := IntWalk.wrap64_in _ ⟨by omega, by omega⟩
            have q3 : wrap64 ((acc : Int) + (P : Int) * ((q : Int) - 128)) = ((acc + q % 128 * P : Nat) : Int) := by rw [← HEQ.out]; exact IntWalk.wrap64_in _ ⟨by omega, by omega⟩
            have q4 : wrap64 (128 * (P : Int)) = ((P * 128 : Nat) : Int) := by rw [IntWalk.wrap64_in _ ⟨by omega, by omega⟩]; omega
            generalize hA : acc + q % 128 * P = acc2 at *
            generalize hP2 : P * 128 = P2 at *
            have HA2 := Lib.hid hA
            have HP2 := Lib.hid hP2
            clear p1 p2 p3 p4 p5 hacc hP HST hA hP2
            go_wp2_with fail
            go_round
            case rel => exact ⟨k + 1, acc2, P2, by omega, by omega, congrArg (Value.int IntKind.i64) q3, congrArg (Value.int IntKind.i64) q4, by go_num, Lib.hid (by rw [← HP2.out, HP.out, Nat.pow_succ]), Lib.hid (by rw [← HA2.out, HP.out]; exact HN1.out), Lib.hid (by rw [HK2.out, if_neg (by omega), if_pos (by omega), ← HA2.out, HP.out])⟩
            case measure => simp [intOf]; omega
        · obtain rfl : k = N := by omega
          have HS := Lib.hid (numS_of_fault (m := m) (l := l) (f := 4) (by have h := numL_end l acc; rw [HN.out] at h; exact HK.out.trans h) (by decide))
          go_wp2_with fail
          refine (HF.out _ (l, 0) _ HR.out).mono ?_
          rintro e w' ⟨rfl, hr', hk', hs', hb'⟩
          go_wp2_with fail
          go_ret
          rw [HS.out]
          exact ⟨rfl, hr', hk', hs', hb'⟩
  · have HS := Lib.hid (numS_bad (l, e) m he)
    have hne : ((e : Int) != 0) = true := by simpa using he
    clear r
    go_enter Try.func17, Try.ntmps17
    go_wp2_with fail
    go_ret
    rw [HS.out]
    exact ⟨rfl, HR.out, fun _ _ _ => rfl, rfl, Below.refl _ _⟩

end Go.Proofs.Ytjbphkcbfhhgbaa
