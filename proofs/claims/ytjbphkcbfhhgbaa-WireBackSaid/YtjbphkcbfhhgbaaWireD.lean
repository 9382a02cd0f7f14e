/-
  Package wire: the walk of Put; the document's Put, All and Same.
-/
import Derived.Test.YtjbphkcbfhhgbaaWireC
set_option linter.unusedVariables false
set_option linter.unusedSimpArgs false
namespace Go.Proofs.Ytjbphkcbfhhgbaa
open Go.RowKit

theorem putAll_take (l : List Int) (k : Nat) (hk : k < l.length) : putAll (l.take (k + 1)) = putAll (l.take k) ++ putL (l.getD k 0) := by
  rw [List.take_succ_eq_append_getElem hk, putAll_snoc, getD_lt hk]

theorem lt_pow5 {N : Nat} (h : N < 1073741824) : N < 128 ^ 5 := by
  have : (128 : Nat) ^ 5 = 34359738368 := by decide
  omega

theorem push_bytes {w : World} {B : Nat} {e : TypeId} {v : Value} {out : List UInt8} {z : Int} {c : UInt8} (h : w.ownsRow B e 1 v (out.length + 1) (bcells out ++ [.int .u8 z])) (hz : z = (c.toNat : Int)) :
    w.ownsRow B e 1 v (out ++ [c]).length (bcells (out ++ [c])) := by
  rw [bcells_append, List.length_append]
  subst hz
  exact h

set_option maxRecDepth 100000 in
set_option maxHeartbeats 2000000 in
theorem put_any (bs : List UInt8) (l : List Int) (A : Option Addr) (c : Nat) (L : Option Addr) (d : Nat) (w : World) (hA : A = none → c = 0) (hb : bs.length ≤ 10000) (hl : l.length ≤ 10000) (hrow : Row w A bs.length (BVal bs)) (hrl : Row w L l.length (IVal l)) :
    Calls Try.prog 9 #[.slice A bs.length c, .slice L l.length d] w fun e w' => OwnB (bs ++ putAll l) w e w' := by
  obtain ⟨i0, hi, hz0, hz1, hz2⟩ := info_parts infoB
  have HI := Lib.hid hi
  have HZ0 := Lib.hid hz0
  have HZ1 := Lib.hid hz1
  have HZ2 := Lib.hid hz2
  have HR := Lib.hid hrow
  have HRL := Lib.hid hrl
  have HL2 := Lib.hid (range_bval bs)
  obtain ⟨n, hn⟩ : ∃ n, bs.length = n := ⟨_, rfl⟩
  obtain ⟨m, hm⟩ : ∃ m, l.length = m := ⟨_, rfl⟩
  rw [hn] at hb HL2 HR ⊢
  rw [hm] at hl HRL ⊢
  have HN := Lib.hid hn
  have HM := Lib.hid hm
  have H1 := Lib.hid (show ∀ u ∈ (List.range n).map (BVal bs), u.oneCell' = true by rw [HL2.out]; exact bval_one bs)
  have HA := Lib.hid hA
  have HMK := Lib.hid (show i0.bytes * (n + m) ≤ 281474976710656 by rw [hz2]; omega)
  have HMX := Lib.hid (show n + m ≤ maxLen by unfold maxLen; omega)
  have HLEN := Lib.hid (show (0 + n) * 1 ≤ 140737488355328 by omega)
  clear hi hz0 hz1 hz2 hrow hrl hn hm hA
  go_enter Try.func9, Try.ntmps9
  go_wp2_with (first
    | (at_make; refine wpList_make_own _ rfl _ _ 22 rfl w.heap.size 5 i0 (.int .u8 0) 1 Try.underlying22 HI.out HZ0.out HZ1.out .i64 .i64 _ (n + m) rfl rfl (by omega) HMK.out HMX.out (Nat.le_refl _) ?_; intro w1 hown1 hg1; have HO1 := Lib.hid hown1; have HU1 := Lib.hid (grownBy_below hg1 (Nat.le_refl _) (fun k h => by cases h)); have HR1 := Lib.hid (Row.below HR.out HU1.out); have hB1 : w.heap.size ≤ w1.heap.size := HU1.out.size; clear hown1 hg1)
    | (at_builtin; refine wpList_appendRow rfl _ _ 22 rfl w.heap.size 5 i0 _ 1 Try.underlying22 HI.out HZ0.out HZ1.out HZ2.out rfl _ _ _ rfl HO1.out _ _ _ (BVal bs) rfl HA.out HR1.out H1.out (by decide) HLEN.out hB1 ?_; intro v2 w2 hown2 hgx hb2; clear hgx))
  rw [HL2.out] at hown2
  have HO2 := Lib.hid (show w2.ownsRow w.heap.size 5 1 v2 (bs ++ putAll (l.take 0)).length (bcells (bs ++ putAll (l.take 0))) by
    rw [List.take_zero, show putAll [] = [] from rfl, List.append_nil, HN.out]
    simpa using hown2)
  have HU2 := Lib.hid (HU1.out.trans hb2)
  clear hown2 hb2 HO1 HR1
  go_wp2_with fail
  go_loopw [5, 19] (fun v t wr => ∃ k : Nat, k ≤ m ∧ t = .int .i64 k ∧ Hid (wr.ownsRow w.heap.size 5 1 v (bs ++ putAll (l.take k)).length (bcells (bs ++ putAll (l.take k)))) ∧ Hid (Below w.heap.size w wr)) (fun _ t _ => m - (intOf t).toNat)
  case atStart => exact ⟨0, by omega, rfl, HO2, HU2⟩
  case round =>
    obtain ⟨wo, rfl⟩ : ∃ wo : World, wo = wr := ⟨_, rfl⟩
    obtain ⟨k, hk, rfl, HO, HW⟩ := hrel
    by_cases hlt : k < m
    · obtain ⟨b, off, rfl, hc⟩ := HRL.out k hlt
      have hc := (HW.out.cell (p := ⟨b, off + k, none⟩) (cell_lt hc)).trans hc
      unfold IVal at hc
      have HT := Lib.hid (putAll_take l k (by rw [HM.out]; exact hlt))
      have HTL := Lib.hid (show (bs ++ putAll (l.take (k + 1))).length ≤ 60000 by
        have := putAll_length (l.take (k + 1))
        rw [List.length_take] at this
        rw [List.length_append, HN.out]
        omega)
      have hcw : ∃ N : Nat, clampW (l.getD k 0) = N ∧ N < 1073741824 ∧ ((l.getD k 0 ≤ 0 ∧ N = 0) ∨ (1073741823 < l.getD k 0 ∧ N = 1073741823) ∨ (l.getD k 0 = N ∧ 0 < N)) := ⟨_, rfl, clampW_lt _, by unfold clampW; omega⟩
      obtain ⟨N, hN, hN2, hN3⟩ := hcw
      have HPL := Lib.hid (show putL (l.getD k 0) = enc 5 N by unfold putL; rw [hN])
      generalize l.getD k 0 = x at *
      clear hN
      rcases hN3 with ⟨hx, rfl⟩ | ⟨hx, rfl⟩ | ⟨rfl, hx⟩
      all_goals
        go_wp2_with fail
        go_loopw [5, 7] (fun v t wr => ∃ (out : List UInt8) (f X : Nat), 1 ≤ f ∧ f ≤ 5 ∧ X < 1073741824 ∧ t = .int .i64 X ∧ Hid (X < 128 ^ f) ∧ Hid (out ++ enc f X = bs ++ putAll (l.take (k + 1))) ∧ Hid (wr.ownsRow w.heap.size 5 1 v out.length (bcells out)) ∧ Hid (Below w.heap.size w wr)) (fun _ t _ => (intOf t).toNat)
        case atStart => exact ⟨bs ++ putAll (l.take k), 5, _, by omega, by omega, hN2, by first | rfl | go_num, Lib.hid (lt_pow5 hN2), Lib.hid (by rw [HT.out, HPL.out, List.append_assoc]), HO, HW⟩
        case round =>
          obtain ⟨out, f, X, hf1, hf5, hX, rfl, HX, HE, HO', HW'⟩ := hrel
          have hB : w.heap.size ≤ wr.heap.size := HW'.out.size
          have HOL := Lib.hid (show out.length ≤ 60000 by
            have h1 := HTL.out
            rw [← HE.out, List.length_append] at h1
            omega)
          have HC := Lib.hid (show (out.length + 1) * 1 ≤ 140737488355328 by have := HOL.out; omega)
          by_cases h128 : 128 ≤ X
          · have HF1 := Lib.hid (show ∃ g, f = g + 1 ∧ 1 ≤ g by
              obtain ⟨g, rfl⟩ : ∃ g, f = g + 1 := ⟨f - 1, by omega⟩
              refine ⟨g, rfl, ?_⟩
              rcases Nat.eq_zero_or_pos g with h0 | h0
              · subst h0; have := HX.out; simp at this; omega
              · exact h0)
            have hm0 : 0 ≤ (X : Int) % 128 := by omega
            have hm1 : (X : Int) % 128 ≤ 127 := by omega
            go_wp2_with (at_builtin; refine wpList_push (news := [.int .u8 ((X : Int) % 128 + 128)]) rfl _ _ 22 rfl w.heap.size i0 _ 1 1 Try.underlying22 HI.out HZ0.out HZ1.out HZ2.out rfl (by decide) _ _ _ rfl HO'.out rfl rfl (by simp [Value.oneCell']) (by decide) HC.out hB ?_; intro v' w1 hown' hgx hb'; clear hgx)
            have HO3 := Lib.hid (push_bytes (c := UInt8.ofNat (128 + X % 128)) hown' (by rw [toNat_small _ (by omega)]; omega))
            have HW3 := Lib.hid (HW'.out.trans hb')
            clear hown' hb'
            go_wp2_with fail
            go_roundw
            case rel =>
              obtain ⟨g, hg, hg1⟩ := HF1.out
              have hX := HX.out
              have hE := HE.out
              subst hg
              exact ⟨_, g, X / 128, hg1, by omega, by omega, by go_num, Lib.hid (by rw [Nat.pow_succ] at hX; exact Nat.div_lt_of_lt_mul (by rw [Nat.mul_comm]; exact hX)),
                Lib.hid (by rw [enc_hi g X (by omega)] at hE; rw [← hE, List.append_assoc]; rfl), HO3, HW3⟩
            case measure => simp [intOf]; omega
          · have HE2 := Lib.hid (show out ++ [UInt8.ofNat X] = bs ++ putAll (l.take (k + 1)) by
              obtain ⟨g, rfl⟩ : ∃ g, f = g + 1 := ⟨f - 1, by omega⟩
              have hE := HE.out
              rw [enc_lo g X (by omega)] at hE
              exact hE)
            go_wp2_with (at_builtin; refine wpList_push (news := [.int .u8 (X : Int)]) rfl _ _ 22 rfl w.heap.size i0 _ 1 1 Try.underlying22 HI.out HZ0.out HZ1.out HZ2.out rfl (by decide) _ _ _ rfl HO'.out rfl rfl (by simp [Value.oneCell']) (by decide) HC.out hB ?_; intro v' w1 hown' hgx hb'; clear hgx)
            have HO3 := Lib.hid (push_bytes (c := UInt8.ofNat X) hown' (by rw [toNat_small _ (by omega)]))
            have HW3 := Lib.hid (HW'.out.trans hb')
            clear hown' hb'
            go_wp2_with fail
            go_roundw
            case rel => exact ⟨k + 1, by omega, by go_num, Lib.hid (by rw [← HE2.out]; exact HO3.out), HW3⟩
            case measure => simp [intOf]; omega
    · obtain rfl : k = m := by omega
      go_wp2_with fail
      go_ret
      have h := HO.out
      rw [List.take_of_length_le (by rw [HM.out]; exact Nat.le_refl _)] at h
      exact ⟨_, rfl, h, HW.out⟩

def clampI (n lo hi : Int) : Int := if n < lo then lo else if hi < n then hi else n
theorem within_any (n lo hi : Int) (w : World) : Calls Try.prog 25 #[.int .i64 n, .int .i64 lo, .int .i64 hi] w fun e w' => e = .returned (.int .i64 (clampI n lo hi)) ∧ w = w' := by
  unfold clampI
  by_cases h1 : n < lo
  · rw [if_pos h1]
    go_enter Try.func25, Try.ntmps25
    go_wp2
    go_ret
    exact ⟨rfl, rfl⟩
  · rw [if_neg h1]
    by_cases h2 : hi < n
    · rw [if_pos h2]
      go_enter Try.func25, Try.ntmps25
      go_wp2
      go_ret
      exact ⟨rfl, rfl⟩
    · rw [if_neg h2]
      go_enter Try.func25, Try.ntmps25
      go_wp2
      go_ret
      exact ⟨rfl, rfl⟩
theorem clamp_any (n top : Int) (w : World) : Calls Try.prog 24 #[.int .i64 n, .int .i64 top] w fun e w' => e = .returned (.int .i64 (clampI n 0 (clampI top 0 1099511627776))) ∧ w = w' := by
  have C := Lib.hid (fun (n lo hi : Int) (w : World) => within_any n lo hi w)
  go_enter Try.func24, Try.ntmps24
  go_wp2_with fail
  refine (C.out _ _ _ _).mono ?_
  rintro e w' ⟨rfl, rfl⟩
  go_wp2_with fail
  refine (C.out _ _ _ _).mono ?_
  rintro e w' ⟨rfl, rfl⟩
  go_wp2_with fail
  go_ret
  exact ⟨rfl, rfl⟩
theorem clamp_put (n : Int) : clampI n 0 (clampI 1073741823 0 1099511627776) = (clampW n : Int) := by
  unfold clampI clampW
  rw [if_neg (show ¬ (1073741823 : Int) < 0 by decide), if_neg (show ¬ (1099511627776 : Int) < 1073741823 by decide)]
  by_cases h1 : n < 0
  · rw [if_pos h1]; omega
  · rw [if_neg h1]
    by_cases h2 : 1073741823 < n
    · rw [if_pos h2]; omega
    · rw [if_neg h2]; omega

set_option maxRecDepth 100000 in
set_option maxHeartbeats 1000000 in
theorem rput_ind (f : Nat) : ∀ (n : Int) (w : World), 1 ≤ f → f ≤ 5 → clampW n < 128 ^ f →
    Calls Try.prog 18 #[.int .i64 n] w fun e w' => OwnB (enc f (clampW n)) w e w' := by
  induction f with
  | zero => intro n w h; omega
  | succ f ih =>
    intro n w _ hf hn
    have CC := Lib.hid (show ∀ W, Calls Try.prog 24 #[.int .i64 n, .int .i64 1073741823] W fun e w' => e = .returned (.int .i64 (clampW n : Nat)) ∧ W = w' from fun W => by
      have := clamp_any n 1073741823 W
      rw [clamp_put] at this
      exact this)
    have hlt := clampW_lt n
    generalize clampW n = X at *
    by_cases h128 : X < 128
    · rw [enc_lo f X h128]
      clear ih
      have HO := Lib.hid (show (w.alloc (.cells #[.int .u8 (X : Int)] 5)).ownsRow w.heap.size 5 1 (.slice (some ⟨w.heap.size, 0, none⟩) 1 1) [UInt8.ofNat X].length (bcells [UInt8.ofNat X]) from
        ⟨by simp [bcells], .inr ⟨w.heap.size, 1, #[.int .u8 (X : Int)], rfl, Nat.le_refl _, heap_alloc_new w _, Nat.le_refl _, by unfold maxLen; decide, rfl, by simp [bcells]; omega⟩⟩)
      clear hn
      go_enter Try.func18, Try.ntmps18
      go_wp2_with fail
      refine (CC.out _).mono ?_
      rintro e w' ⟨rfl, rfl⟩
      go_wp2_with fail
      go_ret
      exact ⟨_, rfl, HO.out, (Below.refl _ _).alloc (Nat.le_refl _) _⟩
    · rw [enc_hi f X h128]
      have hf1 : 1 ≤ f := by
        rcases Nat.eq_zero_or_pos f with h0 | h0
        · subst h0; simp at hn; omega
        · exact h0
      have hcl : clampW ((X / 128 : Nat) : Int) = X / 128 := by unfold clampW; omega
      have ihx : ∀ W, Calls Try.prog 18 #[.int .i64 ((X : Int) / 128)] W fun e w' => OwnB (enc f (X / 128)) W e w' := fun W => by
        have h := ih ((X / 128 : Nat) : Int) W hf1 (by omega) (by rw [hcl]; rw [Nat.pow_succ] at hn; exact Nat.div_lt_of_lt_mul (by rw [Nat.mul_comm]; exact hn))
        rw [hcl] at h
        have e : ((X / 128 : Nat) : Int) = (X : Int) / 128 := by omega
        rw [e] at h
        exact h
      have IH := Lib.hid ihx
      have hm0 : 0 ≤ (X : Int) % 128 := by omega
      have hm1 : (X : Int) % 128 ≤ 127 := by omega
      obtain ⟨i0, hi, hz0, hz1, hz2⟩ := info_parts infoB
      have HI := Lib.hid hi
      have HZ0 := Lib.hid hz0
      have HZ1 := Lib.hid hz1
      have HZ2 := Lib.hid hz2
      have HO := Lib.hid (show (w.alloc (.cells #[.int .u8 (128 + (X : Int) % 128)] 5)).ownsRow w.heap.size 5 1 (.slice (some ⟨w.heap.size, 0, none⟩) 1 1) 1 (bcells [UInt8.ofNat (128 + X % 128)]) from
        ⟨by simp [bcells], .inr ⟨w.heap.size, 1, #[.int .u8 (128 + (X : Int) % 128)], rfl, Nat.le_refl _, heap_alloc_new w _, Nat.le_refl _, by unfold maxLen; decide, rfl, by
          show [Value.int .u8 (128 + (X : Int) % 128)] = bcells [UInt8.ofNat (128 + X % 128)]
          unfold bcells
          simp only [List.map_cons, List.map_nil]
          rw [toNat_small _ (by omega)]
          congr 2⟩⟩)
      have HEL := Lib.hid (enc_length f (X / 128))
      clear ih hn hcl ihx hi hz0 hz1 hz2
      go_enter Try.func18, Try.ntmps18
      go_wp2_with fail
      refine (CC.out _).mono ?_
      rintro e w' ⟨rfl, rfl⟩
      go_wp2_with fail
      refine (IH.out _).mono ?_
      rintro e w1 ⟨v, rfl, hown, hb⟩
      obtain ⟨A, c, rfl, hr, hc⟩ := own_bytes hown
      have hAc : A = none → c = 0 := by
        intro h
        subst h
        rcases hown.2 with ⟨h, _⟩ | ⟨g2, cap2, cur2, h, _⟩
        · injection h
        · injection h with h; cases h
      have HO1 := Lib.hid (own_below HO.out hb)
      have HB := Lib.hid (((Below.refl w.heap.size w).alloc (Nat.le_refl _) (.cells #[.int .u8 (128 + (X : Int) % 128)] 5)).trans (hb.mono (by simp)))
      have hB : w.heap.size ≤ w1.heap.size := HB.out.size
      have HR := Lib.hid hr
      have HA := Lib.hid hAc
      have HL2 := Lib.hid (range_bval (enc f (X / 128)))
      have HLEN := Lib.hid (show (1 + (enc f (X / 128)).length) * 1 ≤ 140737488355328 by have := HEL.out; omega)
      have H1 := Lib.hid (show ∀ u ∈ (List.range (enc f (X / 128)).length).map (BVal (enc f (X / 128))), u.oneCell' = true by rw [HL2.out]; exact bval_one _)
      clear hown hb hr hc hAc
      generalize hel : enc f (X / 128) = el at *
      have HEQ := Lib.hid hel
      clear hel
      obtain ⟨q, hq⟩ : ∃ q, el.length = q := ⟨_, rfl⟩
      rw [hq] at HR HL2 HLEN H1 ⊢
      have HQ := Lib.hid hq
      clear hq
      go_wp2_with (at_builtin; refine wpList_appendRow rfl _ _ 22 rfl w.heap.size 5 i0 _ 1 Try.underlying22 HI.out HZ0.out HZ1.out HZ2.out rfl _ _ _ rfl HO1.out _ _ _ (BVal el) rfl HA.out HR.out H1.out (by decide) HLEN.out hB ?_; intro v2 w2 hown2 hgx hb2; clear hgx)
      rw [HL2.out] at hown2
      have HO2 := Lib.hid hown2
      have HB2 := Lib.hid (HB.out.trans hb2)
      clear hown2 hb2
      go_wp2_with fail
      go_ret
      refine ⟨_, rfl, ?_, HB2.out⟩
      rw [HEQ.out, show UInt8.ofNat (128 + X % 128) :: el = [UInt8.ofNat (128 + X % 128)] ++ el from rfl, bcells_append, List.length_append, HQ.out]
      exact HO2.out

theorem rput_any (n : Int) (w : World) : Calls Try.prog 18 #[.int .i64 n] w fun e w' => OwnB (putL n) w e w' :=
  rput_ind 5 n w (by omega) (by omega) (lt_pow5 (clampW_lt n))

theorem own_nil_cap {w : World} {B n c : Nat} {e : TypeId} {A : Option Addr} {xs : List Value} (h : w.ownsRow B e 1 (.slice A n c) n xs) : A = none → c = 0 := by
  intro hA
  subst hA
  rcases h.2 with ⟨h, _⟩ | ⟨g2, cap2, cur2, h, _⟩
  · injection h
  · injection h with h; cases h

set_option maxRecDepth 100000 in
set_option maxHeartbeats 1000000 in
theorem rall_any (bs : List UInt8) (l : List Int) (A : Option Addr) (c : Nat) (L : Option Addr) (d : Nat) (w : World) (hA : A = none → c = 0) (hb : bs.length ≤ 10000) (hl : l.length ≤ 10000) (hrow : Row w A bs.length (BVal bs)) (hrl : Row w L l.length (IVal l)) :
    Calls Try.prog 10 #[.slice A bs.length c, .slice L l.length d] w fun e w' => OwnB (bs ++ putAll l) w e w' := by
  obtain ⟨i0, hi, hz0, hz1, hz2⟩ := info_parts infoB
  have HI := Lib.hid hi
  have HZ0 := Lib.hid hz0
  have HZ1 := Lib.hid hz1
  have HZ2 := Lib.hid hz2
  have HR1 := Lib.hid (show Row (w.alloc (.cells #[] 5)) A bs.length (BVal bs) from Row.up hrow ((Up.refl w).alloc _))
  have HRL := Lib.hid hrl
  have HL2 := Lib.hid (range_bval bs)
  have HO1 := Lib.hid (own_empty w 5)
  obtain ⟨n, hn⟩ : ∃ n, bs.length = n := ⟨_, rfl⟩
  obtain ⟨m, hm⟩ : ∃ m, l.length = m := ⟨_, rfl⟩
  rw [hn] at hb HL2 HR1 ⊢
  rw [hm] at hl HRL ⊢
  have HN := Lib.hid hn
  have HM := Lib.hid hm
  have H1 := Lib.hid (show ∀ u ∈ (List.range n).map (BVal bs), u.oneCell' = true by rw [HL2.out]; exact bval_one bs)
  have HA := Lib.hid hA
  have HLEN := Lib.hid (show (0 + n) * 1 ≤ 140737488355328 by omega)
  have HCP := Lib.hid (fun (x : Int) (W : World) => rput_any x W)
  clear hi hz0 hz1 hz2 hrow hrl hn hm hA
  go_enter Try.func10, Try.ntmps10
  go_wp2_with (at_builtin; refine wpList_appendRow rfl _ _ 22 rfl w.heap.size 5 i0 _ 1 Try.underlying22 HI.out HZ0.out HZ1.out HZ2.out rfl _ _ _ rfl HO1.out _ _ _ (BVal bs) rfl HA.out HR1.out H1.out (by decide) HLEN.out (by simp) ?_; intro v2 w2 hown2 hgx hb2; clear hgx)
  rw [HL2.out] at hown2
  have HO2 := Lib.hid (show w2.ownsRow w.heap.size 5 1 v2 (bs ++ putAll (l.take 0)).length (bcells (bs ++ putAll (l.take 0))) by
    rw [List.take_zero, show putAll [] = [] from rfl, List.append_nil, HN.out]
    simpa using hown2)
  have HU2 := Lib.hid (((Below.refl w.heap.size w).alloc (Nat.le_refl _) (.cells #[] 5)).trans hb2)
  clear hown2 hb2 HO1 HR1
  go_wp2_with fail
  go_loopw [5, 6] (fun v t wr => ∃ k : Nat, k ≤ m ∧ t = .int .i64 k ∧ Hid (wr.ownsRow w.heap.size 5 1 v (bs ++ putAll (l.take k)).length (bcells (bs ++ putAll (l.take k)))) ∧ Hid (Below w.heap.size w wr)) (fun _ t _ => m - (intOf t).toNat)
  case atStart => exact ⟨0, by omega, rfl, HO2, HU2⟩
  case round =>
    obtain ⟨k, hk, rfl, HO, HW⟩ := hrel
    by_cases hlt : k < m
    · obtain ⟨b, off, rfl, hc⟩ := HRL.out k hlt
      have hc := (HW.out.cell (p := ⟨b, off + k, none⟩) (cell_lt hc)).trans hc
      unfold IVal at hc
      have HT := Lib.hid (putAll_take l k (by rw [HM.out]; exact hlt))
      have HTL := Lib.hid (show (bs ++ putAll (l.take (k + 1))).length ≤ 60000 by
        have := putAll_length (l.take (k + 1))
        rw [List.length_take] at this
        rw [List.length_append, HN.out]
        omega)
      generalize l.getD k 0 = x at *
      go_wp2_with fail
      refine (HCP.out _ _).mono ?_
      rintro e w3 ⟨v3, rfl, hown3, hb3⟩
      obtain ⟨A3, c3, rfl, hr3, hc3⟩ := own_bytes hown3
      have HA3 := Lib.hid (own_nil_cap hown3)
      have HR3 := Lib.hid hr3
      have HOK := Lib.hid (own_below HO.out hb3)
      have HW3 := Lib.hid (HW.out.trans (hb3.mono HW.out.size))
      have hB3 : w.heap.size ≤ w3.heap.size := HW3.out.size
      have HL3 := Lib.hid (range_bval (putL x))
      have H13 := Lib.hid (show ∀ u ∈ (List.range (putL x).length).map (BVal (putL x)), u.oneCell' = true by rw [HL3.out]; exact bval_one _)
      have HLEN3 := Lib.hid (show ((bs ++ putAll (l.take k)).length + (putL x).length) * 1 ≤ 140737488355328 by
        have h1 := HTL.out
        rw [HT.out, ← List.append_assoc, List.length_append] at h1
        omega)
      clear hown3 hb3 hr3 hc3
      go_wp2_with (at_builtin; refine wpList_appendRow rfl _ _ 22 rfl w.heap.size 5 i0 _ 1 Try.underlying22 HI.out HZ0.out HZ1.out HZ2.out rfl _ _ _ rfl HOK.out _ _ _ (BVal (putL x)) rfl HA3.out HR3.out H13.out (by decide) HLEN3.out hB3 ?_; intro v4 w4 hown4 hgx hb4; clear hgx)
      have HO4 := Lib.hid (show w4.ownsRow w.heap.size 5 1 v4 (bs ++ putAll (l.take (k + 1))).length (bcells (bs ++ putAll (l.take (k + 1)))) by
        rw [HL3.out] at hown4
        rw [HT.out, ← List.append_assoc, bcells_append, List.length_append]
        exact hown4)
      have HW4 := Lib.hid (HW3.out.trans hb4)
      clear hown4 hb4
      go_wp2_with fail
      go_roundw
      case rel => exact ⟨k + 1, by omega, by go_num, HO4, HW4⟩
      case measure => simp [intOf]; omega
    · obtain rfl : k = m := by omega
      go_wp2_with fail
      go_ret
      have h := HO.out
      rw [List.take_of_length_le (by rw [HM.out]; exact Nat.le_refl _)] at h
      exact ⟨_, rfl, h, HW.out⟩

/-- 'string(b)'. -/
theorem conv_bytes (l : List UInt8) (A : Option Addr) (c : Nat) (w : World) (hrow : Row w A l.length (BVal l)) :
    (convert 22 9 (.slice A l.length c)).run Try.prog w = .ok (.string ⟨l.toArray⟩) w := by
  cases A with
  | none =>
    have hl : l = [] := by
      cases l with
      | nil => rfl
      | cons x l => obtain ⟨b, off, he, _⟩ := hrow 0 (by simp); cases he
    subst hl
    rw [run_convert_bytes_string (P := Try.prog) w 22 9 5 none _ c Try.underlying22 Try.underlying5 Try.underlying9]
    rfl
  | some ad =>
    refine run_convert_bytes_back (P := Try.prog) w 22 9 5 ad c l Try.underlying22 Try.underlying5 Try.underlying9 ?_
    intro j hj
    obtain ⟨b, off, he, hc⟩ := hrow j hj
    injection he with he
    subst he
    rw [Go.WideShapes.add_plain, hc]
    unfold BVal
    rw [getDB_lt hj]

theorem same_any (a b : List UInt8) (A B : Option Addr) (c d : Nat) (w : World) (ha : Row w A a.length (BVal a)) (hb : Row w B b.length (BVal b)) :
    Calls Try.prog 8 #[.slice A a.length c, .slice B b.length d] w fun e w' => e = .returned (.bool (a == b)) ∧ w = w' := by
  have h1 := conv_bytes a A c w ha
  have h2 := conv_bytes b B d w hb
  generalize a.length = n at *
  generalize b.length = m at *
  clear ha hb
  go_enter Try.func8, Try.ntmps8
  go_wp2_with fail
  go_ret
  exact ⟨by simp, rfl⟩

end Go.Proofs.Ytjbphkcbfhhgbaa
