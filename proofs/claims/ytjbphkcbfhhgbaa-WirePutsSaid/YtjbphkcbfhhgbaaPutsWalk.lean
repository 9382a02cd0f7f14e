/-
  The walk of WirePuts.
-/
import Derived.Test.YtjbphkcbfhhgbaaWireF
set_option linter.unusedVariables false
set_option linter.unusedSimpArgs false
namespace Go.Proofs.Ytjbphkcbfhhgbaa
open Go.RowKit

/-- Bytes of the call's own: k of them. -/
def OwnK (l : List UInt8) (k : Nat) (w : World) (e : Ending) (w' : World) : Prop := ∃ A c, e = .returned (.slice A k c) ∧ Row w' A k (BVal l) ∧ (A = none → c = 0) ∧ k ≤ c ∧ Below w.heap.size w w'
theorem ownK_of {l : List UInt8} {w w' : World} {e : Ending} (h : OwnB l w e w') : OwnK l l.length w e w' := by
  obtain ⟨v, rfl, hown, hb⟩ := h
  obtain ⟨A, c, rfl, hr, hc, hA, _, _⟩ := own_parts hown
  exact ⟨A, c, rfl, hr, hA, hc, hb⟩

theorem wirePuts_any (bs : List UInt8) (l : List Int) (A : Option Addr) (c : Nat) (L : Option Addr) (d : Nat) (w : World) (hA : A = none → c = 0) (hbm : bs.length ≤ 9223372036854775807) (hlm : l.length ≤ 9223372036854775807) (hrow : Row w A bs.length (BVal bs)) (hrl : Row w L l.length (IVal l)) :
    Calls Try.prog 3 #[.slice A bs.length c, .slice L l.length d] w fun e w' => e = .returned (.bool true) ∧ Below w.heap.size w w' := by
  have HAL := Lib.hid (fun W : World => alive_any W)
  by_cases hs : bs.length ≤ 100 ∧ l.length ≤ 100
  · have hcv := conv_bytes bs A c w hrow
    have CP := Lib.hid ((put_any bs l A c L d w hA (by omega) (by omega) hrow hrl).mono fun e w' h => ownK_of h)
    have CR := Lib.hid (fun W (hb : Up w W) => (rall_any bs l A c L d W hA (by omega) (by omega) (hrow.up hb) (hrl.up hb)).mono fun e w' h => ownK_of h)
    have CS := Lib.hid (fun W B c D d ha hb => same_any (bs ++ putAll l) (bs ++ putAll l) B D c d W ha hb)
    simp only [beq_self_eq_true] at CS
    generalize (bs ++ putAll l).length = k at *
    generalize (bs ++ putAll l) = out at *
    have CV := Lib.hid (fun W (hb : Up w W) => conv_bytes bs A c W (hrow.up hb))
    clear hrow hrl hA
    have hn1 : (bs.length : Int) ≤ 100 := by omega
    have hn2 : (l.length : Int) ≤ 100 := by omega
    have ng1 : ¬ (100 : Int) < (bs.length : Int) := by omega
    have ng2 : ¬ (100 : Int) < (l.length : Int) := by omega
    generalize bs.length = n at *
    generalize l.length = m at *
    clear hs hbm hlm
    go_enter Try.func3, Try.ntmps3
    go_wp2_with fail
    refine CP.out.mono ?_
    rintro e w1 ⟨A1, c1, rfl, hr1, _, _, hb1⟩
    have HU1 := Lib.hid (show Up w w1 from hb1)
    have HR1 := Lib.hid hr1
    clear hb1 hr1 hcv
    go_wp2_with fail
    refine (CR.out _ HU1.out).mono ?_
    rintro e w2 ⟨A2, c2, rfl, hr2, _, _, hb2⟩
    have HU2 := Lib.hid (HU1.out.trans hb2)
    have HR2 := Lib.hid hr2
    have HR12 := Lib.hid (HR1.out.below hb2)
    clear hb2 hr2 HR1 HU1
    go_wp2_with fail
    refine (CS.out _ _ _ _ _ HR12.out HR2.out).mono ?_
    rintro e w3 ⟨rfl, rfl⟩
    have hcv := CV.out _ HU2.out
    go_wp2_with fail
    refine (HAL.out _).mono ?_
    rintro e w3 ⟨rfl, hb3⟩
    have HU3 := Lib.hid (HU2.out.trans hb3)
    go_wp2_with fail
    go_ret
    exact ⟨rfl, HU3.out⟩
  · clear hrow hrl hA
    generalize bs.length = n at *
    generalize l.length = m at *
    by_cases h1 : 100 < n
    · have h1' : (100 : Int) < (n : Int) := by omega
      clear hs
      go_enter Try.func3, Try.ntmps3
      go_wp2_with fail
      refine (HAL.out _).mono ?_
      rintro e w3 ⟨rfl, hb3⟩
      go_wp2_with fail
      go_ret
      exact ⟨rfl, hb3⟩
    · have h1' : ¬ (100 : Int) < (n : Int) := by omega
      have h2' : (100 : Int) < (m : Int) := by omega
      clear hs
      go_enter Try.func3, Try.ntmps3
      go_wp2_with fail
      refine (HAL.out _).mono ?_
      rintro e w3 ⟨rfl, hb3⟩
      go_wp2_with fail
      go_ret
      exact ⟨rfl, hb3⟩

end Go.Proofs.Ytjbphkcbfhhgbaa
