/-
  Package wire: the document's Reader: the last byte of a number.
-/
import Derived.Test.YtjbphkcbfhhgbaaWireG
set_option linter.unusedVariables false
set_option linter.unusedSimpArgs false
namespace Go.Proofs.Ytjbphkcbfhhgbaa
open Go.RowKit

theorem RefIs.adv {w : World} {h C b off c c' k N : Nat} {l : List UInt8} {A' : Option Addr} (r : RefIs w h C (l, 0)) (hN : l.length = N) (h0 : w.cell? ⟨h, 0, none⟩ = some (.slice (some ⟨b, off, none⟩) l.length c)) (hr : Row w (some ⟨b, off, none⟩) l.length (BVal l)) (hb : b < C)
    (hk : k ≤ N) (hc1 : N - k ≤ c') (hc2 : c' ≤ 9223372036854775807) (hA : k < N → A' = some ⟨b, off + k, none⟩) :
    RefIs (w.setCell ⟨h, 0, none⟩ (.slice A' (N - k) c')) h C (l.drop k, 0) where
  lo := r.lo
  hi := by simpa using r.hi
  c1 := by rw [World.cell?_setCell_other _ _ _ _ (by simp)]; exact r.c1
  f0 := by simpa [go_sem] using r.f0
  f1 := by simpa [go_sem] using r.f1
  len := by have := r.len; simp at this ⊢; omega
  rest := fun _ => by
    simp only [List.length_drop]
    subst hN
    refine ⟨A', c', World.cell?_setCell_same _ _ _ h0, ?_, hc1, hc2, ?_⟩
    · intro j hj
      rw [hA (by omega)]
      refine ⟨b, off + k, rfl, ?_⟩
      obtain ⟨b', off', e', hc'⟩ := hr (k + j) (by omega)
      injection e' with e'
      cases e'
      rw [keep_cell (Keep.set w h 0 _ b (cell_lt hc') (by have := r.lo; omega)), bval_drop, Nat.add_assoc]
      exact hc'
    · intro b2 off2 e2 hpos
      rw [hA (by omega)] at e2
      injection e2 with e2
      cases e2
      exact hb
  bad := fun hz => absurd rfl hz

theorem RefIs.adv0 {w : World} {h C k N : Nat} {l : List UInt8} {v : Value} {A' : Option Addr} (r : RefIs w h C (l, 0)) (hN : l.length = N) (h0 : w.cell? ⟨h, 0, none⟩ = some v) (hk : N ≤ k) :
    RefIs (w.setCell ⟨h, 0, none⟩ (.slice A' 0 0)) h C (l.drop k, 0) where
  lo := r.lo
  hi := by simpa using r.hi
  c1 := by rw [World.cell?_setCell_other _ _ _ _ (by simp)]; exact r.c1
  f0 := by simpa [go_sem] using r.f0
  f1 := by simpa [go_sem] using r.f1
  len := by have := r.len; simp at this ⊢; omega
  rest := fun _ => by
    rw [List.drop_eq_nil_of_le (by omega)]
    exact ⟨A', 0, World.cell?_setCell_same _ _ _ h0, Row.nil _ _ _, Nat.le_refl _, by omega, fun b off e hp => absurd hp (by simp)⟩
  bad := fun hz => absurd rfl hz

/-- The last byte's outcome. -/
def lastS (l : List UInt8) (i : Nat) (x m : Int) : Int × (List UInt8 × Int) :=
  if (l.getD i 0).toNat = 0 ∧ 0 < i then (0, (l, 3))
  else if m < x then (0, (l, 6)) else if 1073741823 < x then (0, (l, 6)) else (x, (l.drop (i + 1), 0))

theorem failS_ok (l : List UInt8) (e : Int) : failS (l, 0) e = (l, e) := rfl

set_option maxHeartbeats 4000000 in
theorem last_any (h C i q : Nat) (n p m : Int) (l : List UInt8) (w : World) (r : RefIs w h C (l, 0)) (hi : i < l.length) (hi4 : i ≤ 4) (hq : (l.getD i 0).toNat = q) (hq2 : q < 128)
    (hn0 : 0 ≤ n) (hn1 : n ≤ 34359738368) (hpq0 : 0 ≤ p * (q : Int)) (hpq1 : p * (q : Int) ≤ 34359738368) :
    Calls Try.prog 23 #[.pointer (some ⟨h, 0, none⟩), .int .i64 i, .int .i64 n, .int .i64 p, .int .i64 m] w fun e w' => RefPost h C (.int .i64 (lastS l i (n + p * q) m).1) (lastS l i (n + p * q) m).2 w e w' := by
  have HR := Lib.hid r
  have f0 := r.f0
  have HF := Lib.hid (fun (W : World) (l' : List UInt8) (e0 : Int) (r : RefIs W h C (l', 0)) => rfail_any h C e0 (l', 0) W r)
  obtain ⟨A, c, c0, hrw, h2, h3, h4⟩ := r.rest rfl
  simp only at c0 hrw h2 h3 h4
  obtain ⟨b, off, rfl, hcell⟩ := hrw i hi
  unfold BVal at hcell
  rw [hq] at hcell
  have HC0 := Lib.hid c0
  have HRW := Lib.hid hrw
  have HB := Lib.hid (h4 b off rfl (by omega))
  have HLEN := Lib.hid r.len
  simp only at HLEN
  have hl3 : l.length ≤ 9223372036854775807 := by omega
  have hqi : (q : Int) ≤ 127 := by omega
  unfold lastS
  rw [hq]
  have hcm : c ≤ 9223372036854775807 := h3
  obtain ⟨N, hN⟩ : ∃ N, l.length = N := ⟨_, rfl⟩
  rw [hN] at hi h2 c0 hl3
  have HN := Lib.hid hN
  clear hN r hrw h4 h3 hq
  by_cases hz : q = 0 ∧ 0 < i
  · rw [if_pos hz]
    obtain ⟨rfl, hi0⟩ := hz
    have hii : (0 : Int) < (i : Int) := by omega
    go_enter Try.func23, Try.ntmps23
    go_wp2_with fail
    refine (HF.out _ l _ HR.out).mono ?_
    rintro e w' ⟨rfl, hr', hk', hs', hb'⟩
    go_wp2_with fail
    go_ret
    exact ⟨rfl, hr', hk', hs', hb'⟩
  · rw [if_neg hz]
    have hz' : ((q : Int) == 0) = false ∨ (((q : Int) == 0) = true ∧ ¬ (0 : Int) < (i : Int)) := by
      by_cases h0 : q = 0
      · right; exact ⟨by subst h0; rfl, by omega⟩
      · left; exact beq_eq_false_iff_ne.2 (by omega)
    have hsum0 : 0 ≤ n + p * (q : Int) := by omega
    have hsum1 : n + p * (q : Int) ≤ 68719476736 := by omega
    clear hz
    have hii : (0 : Int) ≤ (i : Int) := by omega
    have ic : (N : Int) ≤ (c : Int) := by omega
    have hck : c = i + 1 ∨ c ≠ i + 1 := by omega
    have HIN := Lib.hid hi
    rcases hz' with hz' | ⟨hz', hz2⟩
    all_goals
      rcases hck with rfl | hck
    all_goals
      by_cases hm : m < n + p * (q : Int)
      · rw [if_pos hm]
        go_enter Try.func23, Try.ntmps23
        go_wp2_with fail
        refine (HF.out _ (l.drop (i + 1)) _ (by first | exact HR.out.adv0 HN.out HC0.out (by have := HIN.out; omega) | exact HR.out.adv HN.out HC0.out HRW.out HB.out (by have := HIN.out; omega) (by omega) (by omega) (by first | exact fun h => absurd h (by omega) | exact fun _ => rfl))).mono ?_
        rintro e w' ⟨rfl, hr', hk', hs', hb'⟩
        go_wp2_with fail
        go_ret
        exact ⟨rfl, hr'.word (by decide) HLEN.out, (Keep.set w h 0 _).trans hk' (by simp), by rw [hs']; simp, ((Below.refl C w).setCell HR.out.lo _).trans hb'⟩
      · rw [if_neg hm]
        by_cases hb : 1073741823 < n + p * (q : Int)
        · rw [if_pos hb]
          go_enter Try.func23, Try.ntmps23
          go_wp2_with fail
          refine (HF.out _ (l.drop (i + 1)) _ (by first | exact HR.out.adv0 HN.out HC0.out (by have := HIN.out; omega) | exact HR.out.adv HN.out HC0.out HRW.out HB.out (by have := HIN.out; omega) (by omega) (by omega) (by first | exact fun h => absurd h (by omega) | exact fun _ => rfl))).mono ?_
          rintro e w' ⟨rfl, hr', hk', hs', hb'⟩
          go_wp2_with fail
          go_ret
          exact ⟨rfl, hr'.word (by decide) HLEN.out, (Keep.set w h 0 _).trans hk' (by simp), by rw [hs']; simp, ((Below.refl C w).setCell HR.out.lo _).trans hb'⟩
        · rw [if_neg hb]
          go_enter Try.func23, Try.ntmps23
          go_wp2_with fail
          go_ret
          exact ⟨rfl, by first | exact HR.out.adv0 HN.out HC0.out (by have := HIN.out; omega) | exact HR.out.adv HN.out HC0.out HRW.out HB.out (by have := HIN.out; omega) (by omega) (by omega) (by first | exact fun h => absurd h (by omega) | exact fun _ => rfl), Keep.set w h 0 _, by simp, (Below.refl C w).setCell HR.out.lo _⟩

end Go.Proofs.Ytjbphkcbfhhgbaa
