/-
  The walk of CellQuiet.
-/
import Derived.Test.YtpapcheliohacaaQuietP
import Derived.Test.YtpapcheliohacaaPairs
import Derived.Test.YtpapcheliohacaaRefN
set_option linter.unusedVariables false
set_option linter.unusedSimpArgs false
namespace Go.Proofs.Ytpapcheliohacaa
open Go.RowKit

def QS (w0 w : World) (h : Nat) (c : CS) (N : Nat) (top : Int) : Prop := Lives w0 w h c N ∧ Quiet c ∧ c.top = top

set_option maxRecDepth 10000 in
set_option maxHeartbeats 4000000 in
theorem cellQuiet_any (n top : Int) (l : List (Int × Int)) (A : Option Addr) (cc : Nat) (w : World) (hn : 0 ≤ n ∧ n ≤ 255) (ht : 0 ≤ top ∧ top ≤ 65535) (hl : l.length ≤ 9223372036854775807) (hr : PairRow w A l) :
    Calls Try.prog 4 #[.int .u8 n, .int .u16 top, .slice A l.length cc] w fun e w' => e = .returned (.bool true) ∧ Up w w' := by
  have HAL := Lib.hid (fun W : World => alive08_any W)
  by_cases hs : l.length ≤ 60
  · have HR := Lib.hid hr
    have z1 : ((60 : Int) < (l.length : Int)) = False := by simp; omega
    have HT := Lib.hid ht
    clear hr
    go_enter Try.func4, Try.ntmps4
    go_wp2_with fail
    refine (new_lives _ _ _).mono ?_
    rintro e w1 ⟨rfl, HL⟩
    have HQ0 := Lib.hid (show QS w w1 w.heap.size (CS.new (1 + n % 3) top) (9 * 0) top from ⟨HL, Quiet.new _ _, by unfold CS.new clampI; dsimp only; rw [if_neg (by omega), if_neg (by omega)]⟩)
    have hc0 : (CS.new (1 + n % 3) top).value = 0 := rfl
    generalize CS.new (1 + n % 3) top = c0 at *
    have HC0 := Lib.hid hc0
    clear HL ht hn hc0
    go_wp2_with fail
    generalize hq : w.heap.size = h at *
    go_loopw [8, 9] (fun u t wr => ∃ (k : Nat) (c : CS), k ≤ l.length ∧ u = .int .i64 c.value ∧ t = .int .i64 k ∧ Hid (QS w wr h c (9 * k) top)) (fun _ t _ => l.length - (intOf t).toNat)
    case atStart => exact ⟨0, c0, by omega, by rw [HC0.out], rfl, HQ0⟩
    case round =>
      obtain ⟨k, c, hk, rfl, rfl, HS⟩ := hrel
      clear HQ0 HC0
      by_cases hlt : k < l.length
      · have hU := HS.out.1.2.1
        obtain ⟨b, off, rfl, g0, g1⟩ := (HR.out.up hU) k hlt
        obtain ⟨⟨x, y⟩, hxy⟩ : ∃ p, l.getD k (0, 0) = p := ⟨_, rfl⟩
        rw [hxy] at g0 g1
        dsimp only at g0 g1
        have hki : (k : Int) < l.length := by omega
        have hk0 : (0 : Int) ≤ k := by omega
        have HXY := Lib.hid hxy
        have hk8 : (k : Int) % 8 = ((k % 8 : Nat) : Int) := by omega
        clear hU hxy
        by_cases hx : x.tmod 2 = 0
        · obtain ⟨q1, q2, q3, q4, q5, q6, q7⟩ := quiet_write HS.out.2.1 (k % 8) (Nat.mod_lt _ (by decide)) y x
          rw [← hk8] at q1 q2 q3 q4 q5 q6 q7
          have HB := Lib.hid (begin_lives h (9 * k) c ((k : Int) % 8) 2 0 y w wr HS.out.1 (by omega))
          rw [q1] at HB
          have HE := Lib.hid (fun W L => end_lives h (9 * k + 9) (c.begin ((k : Int) % 8) 2 y).2 ((k : Int) % 8) x w W L (by omega))
          rw [q2, q3] at HE
          rw [HS.out.2.2] at q6 q7
          
          generalize (c.begin ((k : Int) % 8) 2 y).2 = c1 at *
          generalize (c1.endA ((k : Int) % 8) x).2.2 = c2 at *
          have HQ := Lib.hid (And.intro q4 q6)
          have HV := Lib.hid q7
          have HVC := Lib.hid (fun W L => value_lives h (9 * k + 9) c2 w W L)
          have HBC := Lib.hid (fun W L => busy_lives h (9 * k + 9) c2 w W L)
          rw [q4.busy 8] at HBC
          rw [q7] at HVC
          have HRK := Lib.hid (fun W (u : Up w W) => (HR.out.up u) k hlt)
          clear q1 q2 q3 q4 q5 q6 q7 HS hk8
          go_wp2_with fail
          refine HB.out.mono ?_
          rintro e w2 ⟨rfl, L⟩
          have HL := Lib.hid L
          obtain ⟨b', off', he, g0, g1⟩ := HRK.out w2 L.2.1
          simp only [Option.some.injEq, Addr.mk.injEq, and_true] at he
          obtain ⟨rfl, rfl⟩ := he
          rw [HXY.out] at g0 g1
          dsimp only at g0 g1
          clear L HB g1
          go_wp2_with fail
          refine (HE.out _ HL.out).mono ?_
          clear HL g0
          rintro e w3 ⟨rfl, L⟩
          have HL := Lib.hid L
          obtain ⟨b', off', he, g0, g1⟩ := HRK.out w3 L.2.1
          simp only [Option.some.injEq, Addr.mk.injEq, and_true] at he
          obtain ⟨rfl, rfl⟩ := he
          rw [HXY.out] at g0 g1
          dsimp only at g0 g1
          clear L HE g0
          go_wp2_with fail
          rw [show wrap64 top = top from IntWalk.wrap64_in _ (by have := HT.out; omega)]
          refine (rclamp_any y top _).mono ?_
          rintro e w4 ⟨rfl, rfl⟩
          clear g1
          go_wp2_with fail
          refine (HVC.out _ HL.out).mono ?_
          rintro e w5 ⟨rfl, rfl⟩
          go_wp2_with fail
          refine (HBC.out _ HL.out).mono ?_
          rintro e w6 ⟨rfl, rfl⟩
          go_wp2_with fail
          go_roundw
          case rel => exact ⟨k + 1, c2, by omega, by rw [HV.out], by go_num, Lib.hid ⟨HL.out, HQ.out.1, HQ.out.2⟩⟩
          case measure => simp [intOf]; omega
        · obtain ⟨q1, q2, q3, q4, q5, q6, q7⟩ := quiet_read HS.out.2.1 (k % 8) (Nat.mod_lt _ (by decide)) y x
          rw [← hk8] at q1 q2 q3 q4 q5 q6 q7
          have HB := Lib.hid (begin_lives h (9 * k) c ((k : Int) % 8) 1 0 y w wr HS.out.1 (by omega))
          rw [q1] at HB
          have HE := Lib.hid (fun W L => end_lives h (9 * k + 9) (c.begin ((k : Int) % 8) 1 y).2 ((k : Int) % 8) x w W L (by omega))
          rw [q2, q3] at HE
          rw [HS.out.2.2] at q6
          
          generalize (c.begin ((k : Int) % 8) 1 y).2 = c1 at *
          generalize (c1.endA ((k : Int) % 8) x).2.2 = c2 at *
          have HQ := Lib.hid (And.intro q4 q6)
          have HV := Lib.hid q7
          have HVC := Lib.hid (fun W L => value_lives h (9 * k + 9) c2 w W L)
          have HBC := Lib.hid (fun W L => busy_lives h (9 * k + 9) c2 w W L)
          rw [q4.busy 8] at HBC
          rw [q7] at HVC
          have HRK := Lib.hid (fun W (u : Up w W) => (HR.out.up u) k hlt)
          clear q1 q2 q3 q4 q5 q6 q7 HS hk8
          go_wp2_with fail
          refine HB.out.mono ?_
          rintro e w2 ⟨rfl, L⟩
          have HL := Lib.hid L
          obtain ⟨b', off', he, g0, g1⟩ := HRK.out w2 L.2.1
          simp only [Option.some.injEq, Addr.mk.injEq, and_true] at he
          obtain ⟨rfl, rfl⟩ := he
          rw [HXY.out] at g0 g1
          dsimp only at g0 g1
          clear L HB g1
          go_wp2_with fail
          refine (HE.out _ HL.out).mono ?_
          clear HL g0
          rintro e w3 ⟨rfl, L⟩
          have HL := Lib.hid L
          clear L HE
          go_wp2_with fail
          refine (HVC.out _ HL.out).mono ?_
          rintro e w5 ⟨rfl, rfl⟩
          go_wp2_with fail
          refine (HBC.out _ HL.out).mono ?_
          rintro e w6 ⟨rfl, rfl⟩
          go_wp2_with fail
          go_roundw
          case rel => exact ⟨k + 1, c2, by omega, by rw [HV.out], by go_num, Lib.hid ⟨HL.out, HQ.out.1, HQ.out.2⟩⟩
          case measure => simp [intOf]; omega
      · obtain rfl : k = l.length := by omega
        clear hlt
        go_wp2_with fail
        refine (HAL.out _).mono ?_
        rintro e w2 ⟨rfl, hU⟩
        go_wp2_with fail
        go_ret
        exact ⟨rfl, HS.out.1.2.1.trans hU⟩
  · have z1 : ((60 : Int) < (l.length : Int)) = True := by simp; omega
    clear hr
    go_enter Try.func4, Try.ntmps4
    go_wp2_with fail
    refine (HAL.out _).mono ?_
    rintro e w1 ⟨rfl, hU⟩
    go_wp2_with fail
    go_ret
    exact ⟨rfl, hU⟩

end Go.Proofs.Ytpapcheliohacaa
