/-
  Package unary: Read and Write, on the program's tape.
-/
import Derived.Test.YtpandnodeldbjaaUnaryP
import Derived.Test.YtpandnodeldbjaaTrompA
import Derived.Test.YtpandnodeldbjaaAlive11
set_option linter.unusedVariables false
set_option linter.unusedSimpArgs false
namespace Go.Proofs.Ytpandnodeldbjaa
open Go.RowKit

theorem most_any (top : Int) (w : World) : Calls Try.prog 83 #[.int .i64 top] w fun e w' => e = .returned (.int .i64 (mostI top)) ∧ w' = w := by
  unfold mostI clampI
  by_cases h1 : top < 0
  · rw [if_pos h1]
    have z1 : ((255 : Int) < top) = False := by simp; omega
    have z2 : (top < 255) = True := by simp; omega
    have z3 : ((0 : Int) < top) = False := by simp; omega
    go_enter Try.func83, Try.ntmps83
    go_wp2_with fail
    go_ret
    exact ⟨rfl, rfl⟩
  · rw [if_neg h1]
    by_cases h2 : 255 < top
    · rw [if_pos h2]
      have z2 : (top < 255) = False := by simp; omega
      go_enter Try.func83, Try.ntmps83
      go_wp2_with fail
      go_ret
      exact ⟨rfl, rfl⟩
    · rw [if_neg h2]
      have z1 : ((255 : Int) < top) = False := by simp; omega
      have z3 : (top < 0) = False := by simp; omega
      go_enter Try.func83, Try.ntmps83
      go_wp2_with fail
      all_goals first
        | (go_ret
           exact ⟨rfl, rfl⟩)
        | (obtain rfl : top = 0 := by omega
           go_ret
           exact ⟨rfl, rfl⟩)

set_option maxRecDepth 10000 in
theorem ubit_any (k b lo n wr rd tp i : Int) (w : World) (hb0 : -1099511627776 ≤ b) (hb1 : b ≤ 1099511627776) (hl0 : -1099511627776 ≤ lo) (hl1 : lo ≤ 1099511627776) (hi0 : 0 ≤ i) (hi1 : i ≤ 255) :
    Calls Try.prog 105 #[regV k b lo n wr rd tp, .int .i64 i] w fun e w' => e = .returned (regV 2 (b + i) (lo + i) n wr rd 1) ∧ Up w w' := by
  have x1 : wrap64 (b + i) = b + i := IntWalk.wrap64_in _ (by omega)
  have x2 : wrap64 (lo + i) = lo + i := IntWalk.wrap64_in _ (by omega)
  unfold regV
  clear hb0 hb1 hl0 hl1 hi0 hi1
  go_enter Try.func105, Try.ntmps105
  go_wp2_with fail
  refine bodyPost_ret (v := .agg #[.int .i64 2, .int .i64 (b + i), .int .i64 (lo + i), .int .i64 n, .int .i64 wr, .int .i64 rd, .int .i64 1]) ?_ rfl ⟨rfl, ((Up.refl w).alloc _).alloc _⟩
  have hs : (w.alloc (.cells #[.int .i64 2, .int .i64 (b + i), .int .i64 (lo + i), .int .i64 n, .int .i64 wr, .int .i64 rd, .int .i64 1] 50)).heap.size = w.heap.size + 1 := by simp
  have hb := heap_alloc_new (w.alloc (.cells #[.int .i64 2, .int .i64 (b + i), .int .i64 (lo + i), .int .i64 n, .int .i64 wr, .int .i64 rd, .int .i64 1] 50)) (.cells #[.int .i64 2, .int .i64 (b + i), .int .i64 (lo + i), .int .i64 n, .int .i64 wr, .int .i64 rd, .int .i64 1] 50)
  rw [hs] at hb
  exact results_cell_row rfl _ _ (w.heap.size + 1) 50 _ _ _ rfl hb Try.underlying50 rfl (by kernel_rfl)

def encB : Bool → Value := .bool

set_option maxRecDepth 10000 in
theorem up_any (k b lo n wr rd tp i : Int) (g B : Nat) (s : TS) (w : World) (h : Tape1 w g B s) (hb0 : -1099511627776 ≤ b) (hb1 : b ≤ 1099511627776) (hl0 : -1099511627776 ≤ lo) (hl1 : lo ≤ 1099511627776) (hi0 : 0 ≤ i) (hi1 : i ≤ 255) :
    Calls Try.prog 84 #[.pointer (some ⟨g, 0, none⟩), regV k b lo n wr rd tp, .int .i64 i] w (TPost encB g B w (((stRO (b + i)).bind fun x => .ret (upB i x)).onT s)) := by
  have hU : Up w (w.alloc (.cells (regC k b lo n wr rd tp) 50)) := (Up.refl w).alloc _
  have hb := reg_box w k b lo n wr rd tp
  have HT := Lib.hid (h.up hU)
  have HU := Lib.hid (TK.ofUp (g := g) (B := B) hU)
  have HBI := Lib.hid (fun W => ubit_any k b lo n wr rd tp i W hb0 hb1 hl0 hl1 hi0 hi1)
  have HSR := Lib.hid (fun W hT => steadyR_any 2 (b + i) (lo + i) n wr rd 1 g B s W hT)
  obtain ⟨R, hR⟩ : ∃ R, ((stRO (b + i)).bind fun x => Op.ret (upB i x)).onT s = R := ⟨_, rfl⟩
  rw [hR]
  have HE := Lib.hid hR
  unfold regV at HBI HSR ⊢
  unfold regC at *
  obtain ⟨c0, c1, c2, c3, c4, c5, c6⟩ := reg_load hb
  generalize hW : w.alloc (.cells #[.int .i64 k, .int .i64 b, .int .i64 lo, .int .i64 n, .int .i64 wr, .int .i64 rd, .int .i64 tp] 50) = W0 at *
  have HW := Lib.hid hW
  clear h hU hR hb hb0 hb1 hl0 hl1 hW hi0 hi1
  go_enter Try.func84, Try.ntmps84
  go_wp2_with fail
  rw [HW.out]
  go_wp2_with fail
  refine (HBI.out _).mono ?_
  rintro e w1 ⟨rfl, hU1⟩
  have HT1 := Lib.hid (HT.out.up hU1)
  have K1 := Lib.hid (HU.out.trans (TK.ofUp hU1))
  clear hU1 c0 c1 c2 c3 c4 c5 c6
  go_wp2_with fail
  refine (call_step (by rw [stRO_onT]; exact HSR.out _ HT1.out) HE.out).mono ?_
  rintro e w2 (⟨s2, rfl, H2, K2, E2⟩ | ⟨x, s2, rfl, H2, K2, E2⟩)
  · go_wp2_with fail
    exact ⟨rfl, TPost.none E2.out ⟨rfl, H2.out, K1.out.trans K2.out⟩⟩
  unfold encI
  go_wp2_with fail
  go_ret
  exact TPost.some E2.out.symm ⟨rfl, H2.out, K1.out.trans K2.out⟩

set_option maxRecDepth 10000 in
theorem put_any (k b lo n wr rd tp i : Int) (up : Bool) (g B : Nat) (s : TS) (w : World) (h : Tape1 w g B s) (hb0 : -1099511627776 ≤ b) (hb1 : b ≤ 1099511627776) (hl0 : -1099511627776 ≤ lo) (hl1 : lo ≤ 1099511627776) (hi0 : 0 ≤ i) (hi1 : i ≤ 255) :
    Calls Try.prog 85 #[.pointer (some ⟨g, 0, none⟩), regV k b lo n wr rd tp, .int .i64 i, .bool up] w (TPost encU g B w ((putO b lo i up).onT s)) := by
  have hU : Up w (w.alloc (.cells (regC k b lo n wr rd tp) 50)) := (Up.refl w).alloc _
  have hb := reg_box w k b lo n wr rd tp
  have HT := Lib.hid (h.up hU)
  have HU := Lib.hid (TK.ofUp (g := g) (B := B) hU)
  have HBI := Lib.hid (fun W => ubit_any k b lo n wr rd tp i W hb0 hb1 hl0 hl1 hi0 hi1)
  have HSW := Lib.hid (fun v W hT => steadyW_any 2 (b + i) (lo + i) n wr rd 1 v g B s W hT)
  obtain ⟨R, hR⟩ : ∃ R, (putO b lo i up).onT s = R := ⟨_, rfl⟩
  rw [hR]
  have HE := Lib.hid (show stW (b + i) (lo + i) (putV i up) s = R by rw [← hR, ← stWO_onT]; rfl)
  unfold regV at HBI HSW ⊢
  unfold regC at *
  obtain ⟨c0, c1, c2, c3, c4, c5, c6⟩ := reg_load hb
  generalize hW : w.alloc (.cells #[.int .i64 k, .int .i64 b, .int .i64 lo, .int .i64 n, .int .i64 wr, .int .i64 rd, .int .i64 tp] 50) = W0 at *
  have HW := Lib.hid hW
  obtain ⟨u, hu⟩ : ∃ u, putV i up = u := ⟨_, rfl⟩
  rw [hu] at HE
  unfold putV at hu
  clear h hU hR hb hb0 hb1 hl0 hl1 hW hi0 hi1
  obtain ⟨z, hz⟩ : ∃ z, (i == 0) = z := ⟨_, rfl⟩
  rw [hz] at hu
  cases up <;> cases z
  all_goals
    simp at hu
    subst hu
    go_enter Try.func85, Try.ntmps85
    go_wp2_with fail
    rw [HW.out]
    go_wp2_with fail
    refine (HBI.out _).mono ?_
    rintro e w1 ⟨rfl, hU1⟩
    have HT1 := Lib.hid (HT.out.up hU1)
    have K1 := Lib.hid (HU.out.trans (TK.ofUp hU1))
    clear hU1 c0 c1 c2 c3 c4 c5 c6
    go_wp2_with fail
    refine (HSW.out _ _ HT1.out).mono ?_
    intro e w2 q
    rw [HE.out] at q
    have HQ := Lib.hid (q.from K1.out)
    rcases q.two with ⟨v, s', hr, rfl, h1, k1⟩ | ⟨s', hr, rfl, h1, k1⟩
    · clear q h1 k1 hr
      unfold encU
      go_wp2_with fail
      go_end0
      exact HQ.out
    · clear q h1 k1 hr
      go_wp2_with fail
      exact ⟨rfl, HQ.out⟩

end Go.Proofs.Ytpandnodeldbjaa
