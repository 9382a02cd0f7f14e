/-
  The chapter's example: tromp.
-/
import Derived.Test.YtpandnodeldbjaaTrompC
import Derived.Test.YtpandnodeldbjaaAlive11
set_option linter.unusedVariables false
set_option linter.unusedSimpArgs false
namespace Go.Proofs.Ytpandnodeldbjaa
open Go.RowKit

set_option maxRecDepth 10000 in
theorem al13a (b lo : Int) (k n wr rd tp : Int) (W : World) (g B q : Nat) (s : TS) (hb : W.heap[q]? = some (.cells (regC k b lo n wr rd tp) 50 (0, 0))) (hq : q < g) (h : Tape1 W g B s) (hb0 : -1099511627776 ≤ b) (hb1 : b ≤ 1099511627776) (hl0 : -1099511627776 ≤ lo) (hl1 : lo ≤ 1099511627776) :
    Calls Try.prog 87 #[.pointer (some ⟨g, 0, none⟩), .pointer (some ⟨q, 0, none⟩)] W (TPost encI g B W ((trR b lo).onT s)) := by
  have HC := Lib.hid (trompR_any k b lo n wr rd tp g B s W h hb0 hb1 hl0 hl1)
  obtain ⟨R, hR⟩ : ∃ R, (trR b lo).onT s = R := ⟨_, rfl⟩
  rw [hR] at HC ⊢
  unfold regV at HC
  obtain ⟨a0, a1, a2, a3, a4, a5, a6⟩ := reg_load hb
  clear hR h hb hb0 hb1 hl0 hl1
  go_enter Try.func87, Try.ntmps87
  go_wp2_with fail
  refine HC.out.mono ?_
  intro e w1 q
  rcases q.two with ⟨v, s1, hr, he, h1, k1⟩ | ⟨s1, hr, he, h1, k1⟩
  · have he2 : e = .returned (.int .i64 v) := he
    subst he2
    have H := Lib.hid q
    have H1 := Lib.hid (show TPost encI g B W R (.returned (.int .i64 v)) w1 from q)
    clear he q h1 k1 a0 a1 a2 a3 a4 a5 a6 H HC hr
    go_wp2_with fail
    go_ret
    exact H1.out
  · subst he
    have H1 := Lib.hid q
    clear q h1 k1 a0 a1 a2 a3 a4 a5 a6 HC hr
    go_wp2_with fail
    exact ⟨rfl, H1.out⟩

set_option maxRecDepth 10000 in
theorem al13c (b lo : Int) (k n wr rd tp : Int) (W : World) (g B q : Nat) (s : TS) (hb : W.heap[q]? = some (.cells (regC k b lo n wr rd tp) 50 (0, 0))) (hq : q < g) (h : Tape1 W g B s) (hb0 : -1099511627776 ≤ b) (hb1 : b ≤ 1099511627776) (hl0 : -1099511627776 ≤ lo) (hl1 : lo ≤ 1099511627776) :
    Calls Try.prog 89 #[.pointer (some ⟨g, 0, none⟩), .pointer (some ⟨q, 0, none⟩)] W (TPost encI g B W ((trR b lo).onT s)) := by
  have HC := Lib.hid (trompR_any k b lo n wr rd tp g B s W h hb0 hb1 hl0 hl1)
  obtain ⟨R, hR⟩ : ∃ R, (trR b lo).onT s = R := ⟨_, rfl⟩
  rw [hR] at HC ⊢
  unfold regV at HC
  obtain ⟨a0, a1, a2, a3, a4, a5, a6⟩ := reg_load hb
  clear hR h hb hb0 hb1 hl0 hl1
  go_enter Try.func89, Try.ntmps89
  go_wp2_with fail
  refine HC.out.mono ?_
  intro e w1 q
  rcases q.two with ⟨v, s1, hr, he, h1, k1⟩ | ⟨s1, hr, he, h1, k1⟩
  · have he2 : e = .returned (.int .i64 v) := he
    subst he2
    have H := Lib.hid q
    have H1 := Lib.hid (show TPost encI g B W R (.returned (.int .i64 v)) w1 from q)
    clear he q h1 k1 a0 a1 a2 a3 a4 a5 a6 H HC hr
    go_wp2_with fail
    go_ret
    exact H1.out
  · subst he
    have H1 := Lib.hid q
    clear q h1 k1 a0 a1 a2 a3 a4 a5 a6 HC hr
    go_wp2_with fail
    exact ⟨rfl, H1.out⟩

set_option maxRecDepth 10000 in
theorem cost13 (b lo : Int) (k n wr rd tp : Int) (W : World) (g B q : Nat) (s : TS) (hb : W.heap[q]? = some (.cells (regC k b lo n wr rd tp) 50 (0, 0))) (hq : q < g) (h : Tape1 W g B s) (hb0 : -1099511627776 ≤ b) (hb1 : b ≤ 1099511627776) (hl0 : -1099511627776 ≤ lo) (hl1 : lo ≤ 1099511627776) :
    Calls Try.prog 52 #[.pointer (some ⟨g, 0, none⟩), .pointer (some ⟨q, 0, none⟩)] W (TPost encI g B W ((trR b lo).onT s)) := by
  have HC := Lib.hid (trompR_any k b lo n wr rd tp g B s W h hb0 hb1 hl0 hl1)
  obtain ⟨R, hR⟩ : ∃ R, (trR b lo).onT s = R := ⟨_, rfl⟩
  rw [hR] at HC ⊢
  unfold regV at HC
  obtain ⟨a0, a1, a2, a3, a4, a5, a6⟩ := reg_load hb
  clear hR h hb hb0 hb1 hl0 hl1
  go_enter Try.func52, Try.ntmps52
  go_wp2_with fail
  refine HC.out.mono ?_
  intro e w1 q
  rcases q.two with ⟨v, s1, hr, he, h1, k1⟩ | ⟨s1, hr, he, h1, k1⟩
  · have he2 : e = .returned (.int .i64 v) := he
    subst he2
    have H := Lib.hid q
    have H1 := Lib.hid (show TPost encI g B W R (.returned (.int .i64 v)) w1 from q)
    clear he q h1 k1 a0 a1 a2 a3 a4 a5 a6 H HC hr
    go_wp2_with fail
    go_ret
    exact H1.out
  · subst he
    have H1 := Lib.hid q
    clear q h1 k1 a0 a1 a2 a3 a4 a5 a6 HC hr
    go_wp2_with fail
    exact ⟨rfl, H1.out⟩

set_option maxRecDepth 10000 in
theorem al13b (b lo : Int) (k n wr rd tp : Int) (W : World) (g B q : Nat) (s : TS) (hb : W.heap[q]? = some (.cells (regC k b lo n wr rd tp) 50 (0, 0))) (hq : q < g) (h : Tape1 W g B s) (hb0 : -1099511627776 ≤ b) (hb1 : b ≤ 1099511627776) (hl0 : -1099511627776 ≤ lo) (hl1 : lo ≤ 1099511627776) :
    Calls Try.prog 88 #[.pointer (some ⟨g, 0, none⟩), .pointer (some ⟨q, 0, none⟩)] W (TPost encI g B W (((trW b lo 1).bind fun _ => Op.ret 0).onT s)) := by
  obtain ⟨R, hR⟩ : ∃ R, ((trW b lo 1).bind fun _ => Op.ret (0 : Int)).onT s = R := ⟨_, rfl⟩
  have HC := Lib.hid (call_step (trompW_any k b lo n wr rd tp 1 g B s W h hb0 hb1 hl0 hl1) hR)
  rw [hR]
  unfold regV at HC
  obtain ⟨a0, a1, a2, a3, a4, a5, a6⟩ := reg_load hb
  clear hR h hb hb0 hb1 hl0 hl1
  go_enter Try.func88, Try.ntmps88
  go_wp2_with fail
  refine HC.out.mono ?_
  rintro e w1 (⟨s1, rfl, H1, K1, E1⟩ | ⟨_, s1, rfl, H1, K1, E1⟩)
  · clear a0 a1 a2 a3 a4 a5 a6 HC
    go_wp2_with fail
    exact ⟨rfl, TPost.none E1.out ⟨rfl, H1.out, K1.out⟩⟩
  · clear a0 a1 a2 a3 a4 a5 a6 HC
    unfold encU
    go_wp2_with fail
    go_ret
    exact TPost.some E1.out.symm ⟨rfl, H1.out, K1.out⟩

theorem strips13 (w : World) : Calls Try.prog 91 #[] w fun e w' => e = .returned (.slice (some ⟨w.heap.size, 0, none⟩) 1 1) ∧ w' = w.alloc (.cells #[.int .i64 3, .int .i64 1, .int .i64 1] 63) := by
  go_enter Try.func91, Try.ntmps91
  go_wp2_with fail
  go_ret
  exact ⟨rfl, rfl⟩
theorem locals13 (w : World) : Calls Try.prog 90 #[] w fun e w' => e = .returned (.int .i64 4) ∧ w' = w := by
  go_enter Try.func90, Try.ntmps90
  go_wp2_with fail
  go_ret
  exact ⟨rfl, rfl⟩
theorem eqStrip_same (a0 a1 a2 : Int) (W : World) : (binOp .eql 63 (.agg #[.int .i64 a0, .int .i64 a1, .int .i64 a2]) (.agg #[.int .i64 a0, .int .i64 a1, .int .i64 a2])).run Try.prog W = .ok (.bool true) W := by
  simp [go_sem]

def s13a : TS := ⟨[0], [], [(1, 3, 0)], []⟩
def s13b : TS := ⟨[0, 0, 0], [1, 1], [(2, 2, 1), (1, 4, 0), (2, 3, 1)], []⟩
def s13c : TS := ⟨[1, 1, 1, 0, 1, 1, 1], [0, 0, 1, 1], [(1, 3, 0), (1, 2, 0), (1, 3, 0), (2, 4, 1), (1, 2, 0), (1, 3, 0)], []⟩

theorem wrap1 : wrap64 1 = 1 := IntWalk.wrap64_in _ (by decide)
theorem on13b : ((trW 2 0 1).bind fun _ => Op.ret (0 : Int)).onT ⟨[0, 0, 0], [], [], []⟩ = (some 0, s13b) := by
  unfold trW s13b
  simp [Op.onT, Op.bind, onT_bind, bitI, TS.get, TS.set, TS.asked, TS.told, wrap1, andT]
theorem on13c : (trR 2 0).onT ⟨[1, 1, 1, 0, 1, 1, 1], [], [], []⟩ = (some 1, s13c) := by
  unfold trR trTurn trEnd s13c
  simp [Op.onT, bitI, TS.get, TS.set, TS.asked, TS.told, wrap1]

theorem play13 (F : Nat) (p : TS → Option Int × TS) (l : List Int) (v : Int) (s1 : TS) (hp : p ⟨l, [], [], []⟩ = (some v, s1)) (hl : l.length ≤ 3000)
    (hen : ∀ (args : Array Value) (W : World), (callFunc F args).run Try.prog W = .ok (.enter F args) W)
    (hf : ∀ (W : World) (g B q : Nat) (s : TS), W.heap[q]? = some (.cells (regC 4 2 0 0 0 0 0) 50 (0, 0)) → q < g → Tape1 W g B s → Calls Try.prog F #[.pointer (some ⟨g, 0, none⟩), .pointer (some ⟨q, 0, none⟩)] W (TPost encI g B W (p s)))
    (W : World) (q : Nat) (hb : W.heap[q]? = some (.cells (regC 4 2 0 0 0 0 0) 50 (0, 0))) (A1 : Option Addr) (c1 : Nat) (hr : Row W A1 l.length (IVal l)) :
    Calls Try.prog 15 #[.func (.func F) #[] #[.pointer (some ⟨q, 0, none⟩)], .slice none 0 0, .slice A1 l.length c1] W fun e w' => ∃ ov, e = .returned (.tuple #[.int .i64 v, ov]) ∧ OutIs w' ov true s1 ∧ Up W w' := by
  have h0 := playI F #[.pointer (some ⟨q, 0, none⟩)] p [] l none A1 0 c1 W (fun _ => rfl) (by decide) hl (Row.nil _ _ _) hr (by decide) hen
    (fun W' g B hU hg h => hf W' g B q _ ((hU.block q (Array.getElem?_eq_some_iff.1 hb).1).trans hb) (by have := (Array.getElem?_eq_some_iff.1 hb).1; omega) h)
  rw [hp] at h0
  exact h0

/-- An Out that lies in a box of its own. -/
def OutBox (w : World) (q : Nat) (s : TS) : Prop := ∃ (b off c d e : Nat) (N L : Option Addr), w.heap[q]? = some (.cells #[.bool true, .slice (some ⟨b, off, none⟩) s.acc.length c, .slice N s.nts.length d, .slice L (shortL s.loc).length e] 29 (0, 0)) ∧
  AccRow w (some ⟨b, off, none⟩) s.acc
theorem OutBox.up {w w' : World} {q : Nat} {s : TS} (h : OutBox w q s) (hU : Up w w') : OutBox w' q s := by
  obtain ⟨b, off, c, d, e, N, L, h1, h2⟩ := h
  exact ⟨b, off, c, d, e, N, L, (hU.block q (Array.getElem?_eq_some_iff.1 h1).1).trans h1, h2.up hU⟩

set_option maxRecDepth 10000 in
set_option maxHeartbeats 2000000 in
theorem alive13_any (w : World) : Calls Try.prog 45 #[] w fun e w' => e = .returned (.bool true) ∧ Up w w' := by
  have hmf : ∀ (fn : Fn) (first cap : Array Value) (w : World), (Instr.makeFunc fn first cap).run Try.prog w = .ok (.func fn first cap) w := fun _ _ _ _ => rfl
  have HPa := Lib.hid (play13 87 (fun s => (trR 2 0).onT s) [0] 0 s13a rfl (by decide) (fun args W => enters Try.func87 (by kernel_rfl) rfl args W)
    (fun W g B q s hb hq h => al13a 2 0 4 0 0 0 0 W g B q s hb hq h (by decide) (by decide) (by decide) (by decide)))
  have HPb := Lib.hid (play13 88 (fun s => ((trW 2 0 1).bind fun _ => Op.ret 0).onT s) [0, 0, 0] 0 s13b on13b (by decide) (fun args W => enters Try.func88 (by kernel_rfl) rfl args W)
    (fun W g B q s hb hq h => al13b 2 0 4 0 0 0 0 W g B q s hb hq h (by decide) (by decide) (by decide) (by decide)))
  have HPc := Lib.hid (play13 89 (fun s => (trR 2 0).onT s) [1, 1, 1, 0, 1, 1, 1] 1 s13c on13c (by decide) (fun args W => enters Try.func89 (by kernel_rfl) rfl args W)
    (fun W g B q s hb hq h => al13c 2 0 4 0 0 0 0 W g B q s hb hq h (by decide) (by decide) (by decide) (by decide)))
  have HST := Lib.hid (fun W => strips13 W)
  have HLO := Lib.hid (fun W => locals13 W)
  have hb0 : (w.alloc (.cells #[.int .i64 4, .int .i64 2, .int .i64 0, .int .i64 0, .int .i64 0, .int .i64 0, .int .i64 0] 50)).heap[w.heap.size]? = some (.cells (regC 4 2 0 0 0 0 0) 50 (0, 0)) := heap_alloc_new w _
  have hU0 : Up w (w.alloc (.cells #[.int .i64 4, .int .i64 2, .int .i64 0, .int .i64 0, .int .i64 0, .int .i64 0, .int .i64 0] 50)) := (Up.refl w).alloc _
  go_enter Try.func45, Try.ntmps45
  go_wp2_with fail
  have hs0 : (w.alloc (.cells #[.int .i64 4, .int .i64 2, .int .i64 0, .int .i64 0, .int .i64 0, .int .i64 0, .int .i64 0] 50)).heap.size = w.heap.size + 1 := by simp
  generalize w.alloc (.cells #[.int .i64 4, .int .i64 2, .int .i64 0, .int .i64 0, .int .i64 0, .int .i64 0, .int .i64 0] 50) = W0 at *
  have HB0 := Lib.hid hb0
  have HU0 := Lib.hid hU0
  clear hb0 hU0
  have hr1 := row_lit W0 [0] 3
  have hU1 : Up W0 (W0.alloc (.cells ([0].map (Value.int .i64)).toArray 3)) := (Up.refl W0).alloc _
  rw [hs0] at hr1
  refine (HPa.out _ w.heap.size ((hU1.block _ (Array.getElem?_eq_some_iff.1 HB0.out).1).trans HB0.out) _ 1 hr1).mono ?_
  rintro e w1 ⟨ov, rfl, hout, hV1⟩
  obtain ⟨A, c1, N1, d1, L1, e1, rfl, r1, -, -, -⟩ := hout
  obtain ⟨b1, o1, rfl, -⟩ := r1 0 (by decide)
  have hla : s13a.acc.length = 1 := rfl
  have hln : s13a.nts.length = 0 := rfl
  have hlL : (shortL s13a.loc).length = 0 := by rfl
  rw [hla, hln, hlL]
  have hW1 : Up w1 (w1.alloc (.cells #[.bool true, .slice (some ⟨b1, o1, none⟩) 1 c1, .slice N1 0 d1, .slice L1 0 e1] 29)) := (Up.refl w1).alloc _
  have hO1 := heap_alloc_new w1 (.cells #[.bool true, .slice (some ⟨b1, o1, none⟩) 1 c1, .slice N1 0 d1, .slice L1 0 e1] 29)
  have hs1 : (w1.alloc (.cells #[.bool true, .slice (some ⟨b1, o1, none⟩) 1 c1, .slice N1 0 d1, .slice L1 0 e1] 29)).heap.size = w1.heap.size + 1 := by simp
  have HA1 := Lib.hid (r1.up hW1)
  have HX1 := Lib.hid ((hU1.trans hV1).trans hW1)
  have HB1 := Lib.hid ((HX1.out.block _ (Array.getElem?_eq_some_iff.1 HB0.out).1).trans HB0.out)
  have HO1 := Lib.hid hO1
  clear hr1 hU1 hV1 hW1 hO1 r1 hla hln hlL hs0
  go_wp2_with fail
  generalize w1.alloc (.cells #[.bool true, .slice (some ⟨b1, o1, none⟩) 1 c1, .slice N1 0 d1, .slice L1 0 e1] 29) = W1 at *
  have hr2 := row_lit W1 [0, 0, 0] 3
  have hU2 : Up W1 (W1.alloc (.cells ([0, 0, 0].map (Value.int .i64)).toArray 3)) := (Up.refl W1).alloc _
  rw [hs1] at hr2
  refine (HPb.out _ w.heap.size ((hU2.block _ (Array.getElem?_eq_some_iff.1 HB1.out).1).trans HB1.out) _ 3 hr2).mono ?_
  rintro e w2 ⟨ov, rfl, hout, hV2⟩
  obtain ⟨A, c2, N2, d2, L2, e2, rfl, r1, -, -, -⟩ := hout
  obtain ⟨b2, o2, rfl, -⟩ := r1 0 (by decide)
  have hla : s13b.acc.length = 3 := rfl
  have hln : s13b.nts.length = 0 := rfl
  have hlL : (shortL s13b.loc).length = 2 := by rfl
  rw [hla, hln, hlL]
  have hW2 : Up w2 (w2.alloc (.cells #[.bool true, .slice (some ⟨b2, o2, none⟩) 3 c2, .slice N2 0 d2, .slice L2 2 e2] 29)) := (Up.refl w2).alloc _
  have hO2 := heap_alloc_new w2 (.cells #[.bool true, .slice (some ⟨b2, o2, none⟩) 3 c2, .slice N2 0 d2, .slice L2 2 e2] 29)
  have hs2 : (w2.alloc (.cells #[.bool true, .slice (some ⟨b2, o2, none⟩) 3 c2, .slice N2 0 d2, .slice L2 2 e2] 29)).heap.size = w2.heap.size + 1 := by simp
  have HA2 := Lib.hid (r1.up hW2)
  have HX2 := Lib.hid ((hU2.trans hV2).trans hW2)
  have HB2 := Lib.hid ((HX2.out.block _ (Array.getElem?_eq_some_iff.1 HB1.out).1).trans HB1.out)
  have HO2 := Lib.hid hO2
  clear hr2 hU2 hV2 hW2 hO2 r1 hla hln hlL hs1
  go_wp2_with fail
  generalize w2.alloc (.cells #[.bool true, .slice (some ⟨b2, o2, none⟩) 3 c2, .slice N2 0 d2, .slice L2 2 e2] 29) = W2 at *
  have hr3 := row_lit W2 [1, 1, 1, 0, 1, 1, 1] 3
  have hU3 : Up W2 (W2.alloc (.cells ([1, 1, 1, 0, 1, 1, 1].map (Value.int .i64)).toArray 3)) := (Up.refl W2).alloc _
  rw [hs2] at hr3
  refine (HPc.out _ w.heap.size ((hU3.block _ (Array.getElem?_eq_some_iff.1 HB2.out).1).trans HB2.out) _ 7 hr3).mono ?_
  rintro e w3 ⟨ov, rfl, hout, hV3⟩
  obtain ⟨A, c3, N3, d3, L3, e3, rfl, r1, -, -, -⟩ := hout
  obtain ⟨b3, o3, rfl, -⟩ := r1 0 (by decide)
  have hla : s13c.acc.length = 6 := rfl
  have hln : s13c.nts.length = 0 := rfl
  have hlL : (shortL s13c.loc).length = 4 := by rfl
  rw [hla, hln, hlL]
  have hW3 : Up w3 (w3.alloc (.cells #[.bool true, .slice (some ⟨b3, o3, none⟩) 6 c3, .slice N3 0 d3, .slice L3 4 e3] 29)) := (Up.refl w3).alloc _
  have hO3 := heap_alloc_new w3 (.cells #[.bool true, .slice (some ⟨b3, o3, none⟩) 6 c3, .slice N3 0 d3, .slice L3 4 e3] 29)
  have hs3 : (w3.alloc (.cells #[.bool true, .slice (some ⟨b3, o3, none⟩) 6 c3, .slice N3 0 d3, .slice L3 4 e3] 29)).heap.size = w3.heap.size + 1 := by simp
  have HA3 := Lib.hid (r1.up hW3)
  have HX3 := Lib.hid ((hU3.trans hV3).trans hW3)
  have HB3 := Lib.hid ((HX3.out.block _ (Array.getElem?_eq_some_iff.1 HB2.out).1).trans HB2.out)
  have HO3 := Lib.hid hO3
  clear hr3 hU3 hV3 hW3 hO3 r1 hla hln hlL hs2
  have hb1 := (HX3.out.block _ (Array.getElem?_eq_some_iff.1 ((HX2.out.block _ (Array.getElem?_eq_some_iff.1 HO1.out).1).trans HO1.out)).1).trans ((HX2.out.block _ (Array.getElem?_eq_some_iff.1 HO1.out).1).trans HO1.out)
  have hb2 := (HX3.out.block _ (Array.getElem?_eq_some_iff.1 HO2.out).1).trans HO2.out
  have p0 := cell_of_row _ _ 0 _ _ _ hb1
  have p1 := cell_of_row _ _ 1 _ _ _ hb1
  have q0 := cell_of_row _ _ 0 _ _ _ hb2
  have q1 := cell_of_row _ _ 1 _ _ _ hb2
  have r0 := cell_of_row _ _ 0 _ _ _ HO3.out
  have r1 := cell_of_row _ _ 1 _ _ _ HO3.out
  simp only [List.getElem?_toArray, List.getElem?_cons_zero, List.getElem?_cons_succ] at p0 p1 q0 q1 r0 r1
  obtain ⟨_, _, hh, -, x1, -⟩ := (HA1.out.up (HX2.out.trans HX3.out)) 0 (by decide)
  simp only [Option.some.injEq, Addr.mk.injEq, and_true] at hh
  obtain ⟨rfl, rfl⟩ := hh
  obtain ⟨_, _, hh, y0, y1, y2⟩ := (HA2.out.up HX3.out) 2 (by decide)
  simp only [Option.some.injEq, Addr.mk.injEq, and_true] at hh
  obtain ⟨rfl, rfl⟩ := hh
  have x1 : (w3.alloc (.cells #[.bool true, .slice (some ⟨b3, o3, none⟩) 6 c3, .slice N3 0 d3, .slice L3 4 e3] 29)).cell? ⟨b1, o1 + 1, none⟩ = some (.int .i64 3) := by simpa [s13a] using x1
  have y0 : (w3.alloc (.cells #[.bool true, .slice (some ⟨b3, o3, none⟩) 6 c3, .slice N3 0 d3, .slice L3 4 e3] 29)).cell? ⟨b2, o2 + 6, none⟩ = some (.int .i64 2) := by simpa [s13b] using y0
  have y1 : (w3.alloc (.cells #[.bool true, .slice (some ⟨b3, o3, none⟩) 6 c3, .slice N3 0 d3, .slice L3 4 e3] 29)).cell? ⟨b2, o2 + 6 + 1, none⟩ = some (.int .i64 3) := by simpa [s13b] using y1
  have y2 : (w3.alloc (.cells #[.bool true, .slice (some ⟨b3, o3, none⟩) 6 c3, .slice N3 0 d3, .slice L3 4 e3] 29)).cell? ⟨b2, o2 + 6 + 2, none⟩ = some (.int .i64 1) := by simpa [s13b] using y2
  have hne := eqAcc_same 2 3 1
  have HU := Lib.hid (((HU0.out.trans HX1.out).trans HX2.out).trans HX3.out)
  clear hb1 hb2 HA1 HA2 HA3 HX1 HX2 HX3 HO1 HO2 HO3 HB0 HB1 HB2 HB3 hs3 HPa HPb HPc
  go_wp2_with fail
  generalize w3.alloc (.cells #[.bool true, .slice (some ⟨b3, o3, none⟩) 6 c3, .slice N3 0 d3, .slice L3 4 e3] 29) = W3 at *
  refine (HLO.out _).mono ?_
  rintro e w4 ⟨rfl, rfl⟩
  go_wp2_with fail
  refine (HST.out _).mono ?_
  rintro e w5 ⟨rfl, rfl⟩
  clear p0 p1 q0 q1 r0 r1 x1 y0 y1 y2 hne
  go_wp2_with fail
  refine (HST.out _).mono ?_
  rintro e w6 ⟨rfl, rfl⟩
  have hU5 := (HU.out.alloc (.cells #[.int .i64 3, .int .i64 1, .int .i64 1] 63)).alloc (.cells #[.int .i64 3, .int .i64 1, .int .i64 1] 63)
  have hs5 := heap_alloc_new (w4.alloc (.cells #[.int .i64 3, .int .i64 1, .int .i64 1] 63)) (.cells #[.int .i64 3, .int .i64 1, .int .i64 1] 63)
  generalize w4.alloc (.cells #[.int .i64 3, .int .i64 1, .int .i64 1] 63) = w5 at *
  have z0 := cell_of_row _ _ 0 _ _ _ hs5
  have z1 := cell_of_row _ _ 1 _ _ _ hs5
  have z2 := cell_of_row _ _ 2 _ _ _ hs5
  simp only [List.getElem?_toArray, List.getElem?_cons_zero, List.getElem?_cons_succ] at z0 z1 z2
  generalize w5.alloc (.cells #[.int .i64 3, .int .i64 1, .int .i64 1] 63) = w6 at *
  have HU6 := Lib.hid hU5
  have heq := eqStrip_same 3 1 1
  clear hU5 hs5
  go_wp2_with fail
  go_ret
  exact ⟨rfl, HU6.out⟩

end Go.Proofs.Ytpandnodeldbjaa
