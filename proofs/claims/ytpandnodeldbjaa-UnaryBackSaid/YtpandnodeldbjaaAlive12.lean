/-
  The chapter's example: unary.
-/
import Derived.Test.YtpandnodeldbjaaUnaryB
import Derived.Test.YtpandnodeldbjaaUnaryR
import Derived.Test.YtpandnodeldbjaaUnaryS
set_option linter.unusedVariables false
set_option linter.unusedSimpArgs false
namespace Go.Proofs.Ytpandnodeldbjaa
open Go.RowKit

set_option maxRecDepth 10000 in
theorem al12a (b lo : Int) (k n wr rd tp : Int) (W : World) (g B q : Nat) (s : TS) (hb : W.heap[q]? = some (.cells (regC k b lo n wr rd tp) 50 (0, 0))) (h : Tape1 W g B s) (hb0 : -1099511627776 ≤ b) (hb1 : b ≤ 1099511627776) (hl0 : -1099511627776 ≤ lo) (hl1 : lo ≤ 1099511627776) :
    Calls Try.prog 81 #[.pointer (some ⟨g, 0, none⟩), .pointer (some ⟨q, 0, none⟩)] W (TPost encI g B W (((unW b lo tp 2).bind fun _ => Op.ret (0 : Int)).onT s)) := by
  obtain ⟨R, hR⟩ : ∃ R, ((unW b lo tp 2).bind fun _ => Op.ret (0 : Int)).onT s = R := ⟨_, rfl⟩
  have HC := Lib.hid (call_step (unaryW_any k b lo n wr rd tp 2 g B s W h hb0 hb1 hl0 hl1) hR)
  rw [hR]
  unfold regV at HC
  obtain ⟨a0, a1, a2, a3, a4, a5, a6⟩ := reg_load hb
  clear hR h hb hb0 hb1 hl0 hl1
  go_enter Try.func81, Try.ntmps81
  go_wp2_with fail
  refine HC.out.mono ?_
  rintro e w1 (⟨s1, rfl, H1, K1, E1⟩ | ⟨_, s1, rfl, H1, K1, E1⟩)
  · clear a0 a1 a2 a3 a4 a5 a6 HC
    go_wp2_with fail
    exact ⟨rfl, TPost.none E1.out ⟨rfl, H1.out, K1.out⟩⟩
  · clear a0 a1 a2 a3 a4 a5 a6 HC
    unfold encU
    go_wp2_with fail
    go_ret
    exact TPost.some E1.out.symm ⟨rfl, H1.out, K1.out⟩

set_option maxRecDepth 10000 in
theorem al12b (b lo : Int) (k n wr rd tp : Int) (W : World) (g B q : Nat) (s : TS) (hb : W.heap[q]? = some (.cells (regC k b lo n wr rd tp) 50 (0, 0))) (h : Tape1 W g B s) (hb0 : -1099511627776 ≤ b) (hb1 : b ≤ 1099511627776) (hl0 : -1099511627776 ≤ lo) (hl1 : lo ≤ 1099511627776) :
    Calls Try.prog 82 #[.pointer (some ⟨g, 0, none⟩), .pointer (some ⟨q, 0, none⟩)] W (TPost encI g B W ((unR b tp).onT s)) := by
  obtain ⟨R, hR⟩ : ∃ R, (unR b tp).onT s = R := ⟨_, rfl⟩
  have HC := Lib.hid (unaryR_any k b lo n wr rd tp g B s W h hb0 hb1 hl0 hl1)
  rw [hR]
  rw [hR] at HC
  unfold regV at HC
  obtain ⟨a0, a1, a2, a3, a4, a5, a6⟩ := reg_load hb
  clear hR h hb hb0 hb1 hl0 hl1
  go_enter Try.func82, Try.ntmps82
  go_wp2_with fail
  refine HC.out.mono ?_
  intro e w1 q
  rcases q.two with ⟨v, s1, hr, he, h1, k1⟩ | ⟨s1, hr, he, h1, k1⟩
  · have he2 : e = .returned (.int .i64 v) := he
    subst he2
    have H1 := Lib.hid (show TPost encI g B W R (.returned (.int .i64 v)) w1 from q)
    clear he q h1 k1 a0 a1 a2 a3 a4 a5 a6 HC hr
    go_wp2_with fail
    go_ret
    exact H1.out
  · subst he
    have H1 := Lib.hid q
    clear q h1 k1 a0 a1 a2 a3 a4 a5 a6 HC hr
    go_wp2_with fail
    exact ⟨rfl, H1.out⟩

def s12a : TS := ⟨[0, 0, 0], [1, 0, 1], [(2, 2, 1), (2, 0, 1)], []⟩
def s12b : TS := ⟨[1, 0, 1], [], [(1, 0, 0), (1, 1, 0), (1, 2, 0)], []⟩
theorem on12a : ((unW 0 0 3 2).bind fun _ => Op.ret (0 : Int)).onT ⟨[0, 0, 0], [], [], []⟩ = (some 0, s12a) := rfl
theorem on12b : (unR 0 3).onT ⟨[1, 0, 1], [], [], []⟩ = (some 2, s12b) := rfl

/-- A play of a closure that has a register in its box. -/
theorem playReg (k0 b0 l0 n0 wt rd tp : Int) (F : Nat) (p : TS → Option Int × TS) (l : List Int) (v : Int) (s1 : TS) (hp : p ⟨l, [], [], []⟩ = (some v, s1)) (hl : l.length ≤ 3000)
    (hen : ∀ (args : Array Value) (W : World), (callFunc F args).run Try.prog W = .ok (.enter F args) W)
    (hf : ∀ (W : World) (g B q : Nat) (s : TS), W.heap[q]? = some (.cells (regC k0 b0 l0 n0 wt rd tp) 50 (0, 0)) → q < g → Tape1 W g B s → Calls Try.prog F #[.pointer (some ⟨g, 0, none⟩), .pointer (some ⟨q, 0, none⟩)] W (TPost encI g B W (p s)))
    (W : World) (q : Nat) (hb : W.heap[q]? = some (.cells (regC k0 b0 l0 n0 wt rd tp) 50 (0, 0))) (A1 : Option Addr) (c1 : Nat) (hr : Row W A1 l.length (IVal l)) :
    Calls Try.prog 15 #[.func (.func F) #[] #[.pointer (some ⟨q, 0, none⟩)], .slice none 0 0, .slice A1 l.length c1] W fun e w' => ∃ ov, e = .returned (.tuple #[.int .i64 v, ov]) ∧ OutIs w' ov true s1 ∧ Up W w' := by
  have h0 := playI F #[.pointer (some ⟨q, 0, none⟩)] p [] l none A1 0 c1 W (fun _ => rfl) (by decide) hl (Row.nil _ _ _) hr (by decide) hen
    (fun W' g B hU hg h => hf W' g B q _ ((hU.block q (Array.getElem?_eq_some_iff.1 hb).1).trans hb) (by have := (Array.getElem?_eq_some_iff.1 hb).1; omega) h)
  rw [hp] at h0
  exact h0

set_option maxRecDepth 10000 in
set_option maxHeartbeats 2000000 in
theorem alive12_any (w : World) : Calls Try.prog 34 #[] w fun e w' => e = .returned (.bool true) ∧ Up w w' := by
  have hmf : ∀ (fn : Fn) (first cap : Array Value) (w : World), (Instr.makeFunc fn first cap).run Try.prog w = .ok (.func fn first cap) w := fun _ _ _ _ => rfl
  have HPa := Lib.hid (playReg 3 0 0 0 0 0 3 81 (fun s => ((unW 0 0 3 2).bind fun _ => Op.ret 0).onT s) [0, 0, 0] 0 s12a on12a (by decide) (fun args W => enters Try.func81 (by kernel_rfl) rfl args W)
    (fun W g B q s hb hq h => al12a 0 0 3 0 0 0 3 W g B q s hb h (by decide) (by decide) (by decide) (by decide)))
  have HPb := Lib.hid (playReg 3 0 0 0 0 0 3 82 (fun s => (unR 0 3).onT s) [1, 0, 1] 2 s12b on12b (by decide) (fun args W => enters Try.func82 (by kernel_rfl) rfl args W)
    (fun W g B q s hb hq h => al12b 0 0 3 0 0 0 3 W g B q s hb h (by decide) (by decide) (by decide) (by decide)))
  have HST := Lib.hid (fun W => strips12 3 W)
  have HLO := Lib.hid (fun W => locals12 3 W)
  have hm3 : mostI 3 = 3 := by decide
  rw [hm3] at HST HLO
  have hb0 : (w.alloc (.cells #[.int .i64 3, .int .i64 0, .int .i64 0, .int .i64 0, .int .i64 0, .int .i64 0, .int .i64 3] 50)).heap[w.heap.size]? = some (.cells (regC 3 0 0 0 0 0 3) 50 (0, 0)) := heap_alloc_new w _
  have hU0 : Up w (w.alloc (.cells #[.int .i64 3, .int .i64 0, .int .i64 0, .int .i64 0, .int .i64 0, .int .i64 0, .int .i64 3] 50)) := (Up.refl w).alloc _
  clear hm3
  go_enter Try.func34, Try.ntmps34
  go_wp2_with fail
  have hs0 : (w.alloc (.cells #[.int .i64 3, .int .i64 0, .int .i64 0, .int .i64 0, .int .i64 0, .int .i64 0, .int .i64 3] 50)).heap.size = w.heap.size + 1 := by simp
  generalize w.alloc (.cells #[.int .i64 3, .int .i64 0, .int .i64 0, .int .i64 0, .int .i64 0, .int .i64 0, .int .i64 3] 50) = W0 at *
  have HB0 := Lib.hid hb0
  have HU0 := Lib.hid hU0
  clear hb0 hU0
  have hr1 := row_lit W0 [0, 0, 0] 3
  have hU1 : Up W0 (W0.alloc (.cells ([0, 0, 0].map (Value.int .i64)).toArray 3)) := (Up.refl W0).alloc _
  rw [hs0] at hr1
  refine (HPa.out _ w.heap.size ((hU1.block _ (Array.getElem?_eq_some_iff.1 HB0.out).1).trans HB0.out) _ 3 hr1).mono ?_
  rintro e w1 ⟨ov, rfl, hout, hV1⟩
  obtain ⟨A, c1, N1, d1, L1, e1, rfl, r1, n1, -, -⟩ := hout
  obtain ⟨b1, o1, rfl, -⟩ := r1 0 (by decide)
  have hla : s12a.acc.length = 2 := rfl
  have hln : s12a.nts.length = 0 := rfl
  have hlL : (shortL s12a.loc).length = 3 := by rfl
  rw [hla, hln, hlL]
  have hW1 : Up w1 (w1.alloc (.cells #[.bool true, .slice (some ⟨b1, o1, none⟩) 2 c1, .slice N1 0 d1, .slice L1 3 e1] 29)) := (Up.refl w1).alloc _
  have hO1 := heap_alloc_new w1 (.cells #[.bool true, .slice (some ⟨b1, o1, none⟩) 2 c1, .slice N1 0 d1, .slice L1 3 e1] 29)
  have hs1 : (w1.alloc (.cells #[.bool true, .slice (some ⟨b1, o1, none⟩) 2 c1, .slice N1 0 d1, .slice L1 3 e1] 29)).heap.size = w1.heap.size + 1 := by simp
  have HA1 := Lib.hid (r1.up hW1)
  have HN1 := Lib.hid (n1.up hW1)
  have HX1 := Lib.hid ((hU1.trans hV1).trans hW1)
  have HB1 := Lib.hid ((HX1.out.block _ (Array.getElem?_eq_some_iff.1 HB0.out).1).trans HB0.out)
  have HO1 := Lib.hid hO1
  clear hr1 hU1 hV1 hW1 hO1 r1 n1 hla hln hlL hs0
  go_wp2_with fail
  generalize w1.alloc (.cells #[.bool true, .slice (some ⟨b1, o1, none⟩) 2 c1, .slice N1 0 d1, .slice L1 3 e1] 29) = W1 at *
  have hr2 := row_lit W1 [1, 0, 1] 3
  have hU2 : Up W1 (W1.alloc (.cells ([1, 0, 1].map (Value.int .i64)).toArray 3)) := (Up.refl W1).alloc _
  rw [hs1] at hr2
  refine (HPb.out _ w.heap.size ((hU2.block _ (Array.getElem?_eq_some_iff.1 HB1.out).1).trans HB1.out) _ 3 hr2).mono ?_
  rintro e w2 ⟨ov, rfl, hout, hV2⟩
  obtain ⟨A, c2, N2, d2, L2, e2, rfl, r1, n1, -, -⟩ := hout
  obtain ⟨b2, o2, rfl, -⟩ := r1 0 (by decide)
  have hla : s12b.acc.length = 3 := rfl
  have hln : s12b.nts.length = 0 := rfl
  have hlL : (shortL s12b.loc).length = 0 := by rfl
  rw [hla, hln, hlL]
  have hW2 : Up w2 (w2.alloc (.cells #[.bool true, .slice (some ⟨b2, o2, none⟩) 3 c2, .slice N2 0 d2, .slice L2 0 e2] 29)) := (Up.refl w2).alloc _
  have hO2 := heap_alloc_new w2 (.cells #[.bool true, .slice (some ⟨b2, o2, none⟩) 3 c2, .slice N2 0 d2, .slice L2 0 e2] 29)
  have hs2 : (w2.alloc (.cells #[.bool true, .slice (some ⟨b2, o2, none⟩) 3 c2, .slice N2 0 d2, .slice L2 0 e2] 29)).heap.size = w2.heap.size + 1 := by simp
  have HA2 := Lib.hid (r1.up hW2)
  have HN2 := Lib.hid (n1.up hW2)
  have HX2 := Lib.hid ((hU2.trans hV2).trans hW2)
  have HB2 := Lib.hid ((HX2.out.block _ (Array.getElem?_eq_some_iff.1 HB1.out).1).trans HB1.out)
  have HO2 := Lib.hid hO2
  clear hr2 hU2 hV2 hW2 hO2 r1 n1 hla hln hlL hs1
  have hb1 := (HX2.out.block _ (Array.getElem?_eq_some_iff.1 HO1.out).1).trans HO1.out
  have p0 := cell_of_row _ _ 0 _ _ _ hb1
  have p1 := cell_of_row _ _ 1 _ _ _ hb1
  have q0 := cell_of_row _ _ 0 _ _ _ HO2.out
  have q1 := cell_of_row _ _ 1 _ _ _ HO2.out
  simp only [List.getElem?_toArray, List.getElem?_cons_zero, List.getElem?_cons_succ] at p0 p1 q0 q1
  obtain ⟨_, _, hh, -, x1, -⟩ := (HA1.out.up HX2.out) 0 (by decide)
  simp only [Option.some.injEq, Addr.mk.injEq, and_true] at hh
  obtain ⟨rfl, rfl⟩ := hh
  obtain ⟨_, _, hh, y0, y1, y2⟩ := (HA1.out.up HX2.out) 1 (by decide)
  simp only [Option.some.injEq, Addr.mk.injEq, and_true] at hh
  obtain ⟨rfl, rfl⟩ := hh
  have x1 : (w2.alloc (.cells #[.bool true, .slice (some ⟨b2, o2, none⟩) 3 c2, .slice N2 0 d2, .slice L2 0 e2] 29)).cell? ⟨b1, o1 + 1, none⟩ = some (.int .i64 2) := by simpa [s12a] using x1
  have y0 : (w2.alloc (.cells #[.bool true, .slice (some ⟨b2, o2, none⟩) 3 c2, .slice N2 0 d2, .slice L2 0 e2] 29)).cell? ⟨b1, o1 + 3, none⟩ = some (.int .i64 2) := by simpa [s12a] using y0
  have y1 : (w2.alloc (.cells #[.bool true, .slice (some ⟨b2, o2, none⟩) 3 c2, .slice N2 0 d2, .slice L2 0 e2] 29)).cell? ⟨b1, o1 + 3 + 1, none⟩ = some (.int .i64 0) := by simpa [s12a] using y1
  have y2 : (w2.alloc (.cells #[.bool true, .slice (some ⟨b2, o2, none⟩) 3 c2, .slice N2 0 d2, .slice L2 0 e2] 29)).cell? ⟨b1, o1 + 3 + 2, none⟩ = some (.int .i64 1) := by simpa [s12a] using y2
  have hne := eqAcc_same 2 0 1
  have HU := Lib.hid ((HU0.out.trans HX1.out).trans HX2.out)
  clear hb1 HA1 HA2 HN1 HN2 HX1 HX2 HO1 HO2 HB0 HB1 HB2 hs2 HPa HPb
  go_wp2_with fail
  generalize w2.alloc (.cells #[.bool true, .slice (some ⟨b2, o2, none⟩) 3 c2, .slice N2 0 d2, .slice L2 0 e2] 29) = W3 at *
  refine (HLO.out _).mono ?_
  rintro e w4 ⟨rfl, rfl⟩
  clear p0 p1 q0 q1 x1 y0 y1 y2 hne
  go_wp2_with fail
  refine (HST.out _).mono ?_
  rintro e w5 ⟨rfl, hU5, hb5⟩
  have z0 := cell_of_row _ _ 0 _ _ _ hb5
  simp only [List.getElem?_toArray, List.getElem?_cons_zero, List.getElem?_cons_succ] at z0
  have HU6 := Lib.hid (HU.out.trans hU5)
  clear hU5 hb5 HU HST HLO
  go_wp2_with fail
  go_ret
  exact ⟨rfl, HU6.out⟩

end Go.Proofs.Ytpandnodeldbjaa
