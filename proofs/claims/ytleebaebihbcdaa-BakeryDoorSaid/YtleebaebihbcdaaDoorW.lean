/-
  The walk of BakeryDoor.
-/
import Derived.Test.YtleebaebihbcdaaAlive23
import Derived.Test.YtleebaebihbcdaaTameO
import Derived.Test.YtleebaebihbcdaaZeros2
import Derived.Laws.StructEq
set_option linter.unusedVariables false
set_option linter.unusedSimpArgs false
namespace Go.Proofs.Ytleebaebihbcdaa
open Go.RowKit

theorem eqAcc_same (a0 a1 a2 : Int) (W : World) : (binOp .eql 45 (.agg #[.int .i64 a0, .int .i64 a1, .int .i64 a2]) (.agg #[.int .i64 a0, .int .i64 a1, .int .i64 a2])).run Try.prog W = .ok (.bool true) W := by
  simp [go_sem]
theorem neqNote_same2 (a0 a1 : Int) (W : World) : (binOp .neq 47 (.agg #[.int .i64 a0, .int .i64 a1]) (.agg #[.int .i64 a0, .int .i64 a1])).run Try.prog W = .ok (.bool false) W := by
  simp [go_sem]
theorem two_allocD (w : World) (R V : Array Value) (tr tv : TypeId) : Up w ((w.alloc (.cells R tr)).alloc (.cells V tv)) ∧ ((w.alloc (.cells R tr)).alloc (.cells V tv)).heap[w.heap.size]? = some (.cells R tr (0, 0)) ∧
    ((w.alloc (.cells R tr)).alloc (.cells V tv)).heap[w.heap.size + 1]? = some (.cells V tv (0, 0)) ∧ ((w.alloc (.cells R tr)).alloc (.cells V tv)).heap.size = w.heap.size + 2 := by
  have u1 : Up w (w.alloc (.cells R tr)) := (Up.refl w).alloc _
  have u2 : Up (w.alloc (.cells R tr)) ((w.alloc (.cells R tr)).alloc (.cells V tv)) := (Up.refl _).alloc _
  have h1 := heap_alloc_new w (.cells R tr)
  have h2 := heap_alloc_new (w.alloc (.cells R tr)) (.cells V tv)
  have s1 : (w.alloc (.cells R tr)).heap.size = w.heap.size + 1 := by simp
  rw [s1] at h2
  exact ⟨u1.trans u2, (u2.block _ (by omega)).trans h1, h2, by simp⟩

set_option maxRecDepth 10000 in
set_option maxHeartbeats 1000000 in
theorem door_cl (ans : List Int) (many t : Nat) (room : Int) (b b2 g B : Nat) (W : World) (hm : 1 ≤ many ∧ many ≤ 8) (ht : t < many) (hr : 1 ≤ room ∧ room ≤ 65536) (hans : ∀ x, x ∈ ans → 0 ≤ x ∧ x ≤ 1099511627776) (hlen : many + 2 ≤ ans.length ∨ (many + 1 ≤ ans.length ∧ room < mostU ans many + 1)) (hb : LockBox W b many room) (hb2 : W.heap[b2]? = some (.cells #[.int .i64 t] 3 (0, 0))) (h : Tape1 W g B ⟨ans, [], [], []⟩) :
    Calls Try.prog 59 #[.pointer (some ⟨g, 0, none⟩), .pointer (some ⟨b, 0, none⟩), .pointer (some ⟨b2, 0, none⟩)] W fun e w' => ∃ r, BakR ans many t room r ∧ TPost encI g B W r e w' := by
  have c0 := cell_of_row _ _ 0 _ _ _ hb
  have c1 := cell_of_row _ _ 1 _ _ _ hb
  have c2 := cell_of_row _ _ 2 _ _ _ hb
  have c3 := cell_of_row _ _ 3 _ _ _ hb
  have c4 := cell_of_row _ _ 4 _ _ _ hb
  have c5 := cell_of_row _ _ 5 _ _ _ hb
  have d0 := cell_of_row _ _ 0 _ _ _ hb2
  simp only [List.getElem?_toArray, List.getElem?_cons_zero, List.getElem?_cons_succ] at c0 c1 c2 c3 c4 c5 d0
  have HA := Lib.hid (bacquire_any ans many t room g B W hm ht hr hans hlen h)
  clear h hlen hans hm hr hb hb2
  go_enter Try.func59, Try.ntmps59
  go_wp2_with fail
  refine HA.out.mono ?_
  rintro e w1 ⟨r, hR, q⟩
  have HR := Lib.hid hR
  rcases tpost_both q with ⟨v, hv, rfl, ht, hk⟩ | ⟨hv, rfl, ht, hk⟩
  · have HQ := Lib.hid q
    clear q hR
    go_wp2_with fail
    go_ret
    exact ⟨r, HR.out, HQ.out⟩
  · have HQ := Lib.hid q
    clear q hR
    go_wp2_with fail
    exact ⟨rfl, r, HR.out, HQ.out⟩

set_option maxRecDepth 10000 in
set_option maxHeartbeats 4000000 in
theorem bakeryDoor_any (n me room : Int) (l : List Int) (A : Option Addr) (cc : Nat) (w : World) (hn : 0 ≤ n ∧ n ≤ 255) (hme : 0 ≤ me ∧ me ≤ 255) (hro : 0 ≤ room ∧ room ≤ 65535) (hl : l.length ≤ 9223372036854775807) (hr : Row w A l.length (IVal l)) :
    Calls Try.prog 12 #[.int .u8 n, .int .u8 me, .int .u16 room, .slice A l.length cc] w fun e w' => e = .returned (.bool true) ∧ Up w w' := by
  have HAL := Lib.hid (fun W : World => alive23_any W)
  by_cases hs : l.length ≤ 300
  · have z1 : ((300 : Int) < (l.length : Int)) = False := by simp; omega
    obtain ⟨mn, hmn⟩ : ∃ mn : Nat, 1 + n % 8 = mn := ⟨(1 + n % 8).toNat, by omega⟩
    have hm : 1 ≤ mn ∧ mn ≤ 8 := by omega
    obtain ⟨tn, htn⟩ : ∃ tn : Nat, me.tmod mn = tn := ⟨(me.tmod mn).toNat, by
      have := Int.tmod_nonneg (mn : Int) hme.1
      omega⟩
    have ht : tn < mn := by
      have := Int.tmod_lt_of_pos me (show (0 : Int) < mn by omega)
      omega
    have hm0 : ((mn : Int) == 0) = false := by rw [beq_eq_false_iff_ne]; omega
    have hm1 : ¬ ((mn : Int) = 0) := by omega
    have hrw : wrap64 (1 + room) = 1 + room := IntWalk.wrap64_in _ (by omega)
    have HME := Lib.hid (And.intro hn (And.intro hme hro))
    have HM := Lib.hid (And.intro hm ht)
    obtain ⟨v2a, v2b, v2c, v2d⟩ := two_allocD w #[.int .i64 1, .int .i64 mn, .int .i64 0, .int .i64 0, .int .i64 0, .int .i64 (1 + room)] #[.int .i64 tn] 68 3
    have HV := Lib.hid (And.intro v2a (And.intro v2b (And.intro v2c v2d)))
    have HTA := Lib.hid (tame_own l A cc (1 + room) _ (by omega) (hr.up v2a))
    have HL := Lib.hid hs
    clear hr v2a v2b v2c v2d
    go_enter Try.func12, Try.ntmps12
    go_wp2_with fail
    generalize (w.alloc (.cells #[.int .i64 1, .int .i64 mn, .int .i64 0, .int .i64 0, .int .i64 0, .int .i64 (1 + room)] 68)).alloc (.cells #[.int .i64 tn] 3) = W2 at *
    refine HTA.out.mono ?_
    rintro e w3 ⟨v1, rfl, hown, hU3⟩
    have HO := Lib.hid hown
    have HU3 := Lib.hid hU3
    obtain ⟨i0, hi, hz0, hz1, hz2⟩ := info_parts infoInt
    have HI := Lib.hid hi
    have HZ0 := Lib.hid hz0
    have HZ1 := Lib.hid hz1
    have HZ2 := Lib.hid hz2
    have H63 := Lib.hid (show l.length + 40 ≤ 1000000 by omega)
    have HTL := Lib.hid (show (tameL l (1 + room)).length = l.length by unfold tameL; simp)
    have HRG := Lib.hid (tame_range l (1 + room))
    clear hown hU3 hi hz0 hz1 hz2 HTA
    generalize tameL l (1 + room) = tl at *
    obtain ⟨ln, hln⟩ : ∃ k, l.length = k := ⟨_, rfl⟩
    rw [hln] at HO H63 HTL HL hs z1 hl ⊢
    clear hln
    go_wp2_with (at_builtin; refine wpList_append_zeros rfl (.tmp 39) (.const (.int .i64 40)) 23 3 rfl W2.heap.size 3 i0 .i64 .i64 Try.underlying23 Try.underlying3 HI.out HZ0.out HZ1.out HZ2.out v1 ln (icells tl) rfl HO.out 40 rfl (by decide) H63.out HU3.out.size ?_)
    intro v2 w4 hown2 hbel2
    obtain ⟨full, hfull⟩ : ∃ f, tl ++ List.replicate 40 (0 : Int) = f := ⟨_, rfl⟩
    have hfl : full.length = ln + 40 := by rw [← hfull]; simp [HTL.out]
    have hfc : icells tl ++ List.replicate 40 (Value.int .i64 0) = icells full := by rw [← hfull]; unfold icells; simp
    have hfr : ∀ x, x ∈ full → 0 ≤ x ∧ x ≤ 1099511627776 := fun x hx => by
      rw [← hfull] at hx
      rcases List.mem_append.1 hx with h | h
      · exact HRG.out x h
      · have := (List.mem_replicate.1 h).2; omega
    have hown3 : w4.ownsRow W2.heap.size 3 1 v2 full.length (icells full) := by
      rw [← hfc, hfl]
      exact hown2
    obtain ⟨A2, c2, rfl, hrow2, -⟩ := own_row hown3 (f := IVal full) (fun q hq => iVal_map hq)
    have hU4 : Up W2 w4 := Below.trans HU3.out hbel2
    have hb4 := (hU4.block _ (by have := HV.out.2.2.2; omega)).trans HV.out.2.1
    have hb5 := (hU4.block _ (by have := HV.out.2.2.2; omega)).trans HV.out.2.2.1
    have HPQ := Lib.hid (playQ 59 #[.pointer (some ⟨w.heap.size, 0, none⟩), .pointer (some ⟨w.heap.size + 1, 0, none⟩)] (BakR full mn tn (1 + room)) [] full none A2 0 c2 w4 (fun _ => rfl) (by simp) (by have := HL.out; omega) (Row.nil _ _ _) hrow2 (by simp) (fun args W => bEnters Try.func59 (by kernel_rfl) rfl args W)
      (fun W' g B hu _ h => door_cl full mn tn (1 + room) w.heap.size (w.heap.size + 1) g B W' HM.out.1 HM.out.2 (by have := HME.out.2.2; omega) hfr (.inl (by have := HM.out.1; omega)) ((hu.block _ (Array.getElem?_eq_some_iff.1 hb4).1).trans hb4) ((hu.block _ (Array.getElem?_eq_some_iff.1 hb5).1).trans hb5) h))
    have HRW := Lib.hid hrow2
    have HFL := Lib.hid hfl
    have HU5 := Lib.hid (HV.out.1.trans hU4)
    have HB5 := Lib.hid hb5
    have HMR := Lib.hid (mostU_in full 1099511627776 (by decide) hfr mn)
    clear hown2 hown3 hbel2 hrow2 hfull hfc hfr hU4 hb4 hb5 HO HU3 HRG HV
    rw [hfl] at HPQ ⊢
    clear hfl
    go_wp2_with fail
    refine HPQ.out.mono ?_
    rintro e w6 ⟨⟨ro, s⟩, ov, hR, rfl, ⟨A3, c3, N3, d3, L3, e3, rfl, r1, r2, r3, _⟩, hU6⟩
    have HU6 := Lib.hid (HU5.out.trans hU6)
    have hb6 := (hU6.block _ (Array.getElem?_eq_some_iff.1 HB5.out).1).trans HB5.out
    have HB6 := Lib.hid hb6
    have HRW6 := Lib.hid (HRW.out.up hU6)
    clear hU6 HU5 HPQ HRW HB5 hb6
    rcases hR with ⟨q1, q2, q3⟩ | ⟨q1, ⟨more, q2⟩, q3, q4, -⟩
    · dsimp only at q1 q2
      subst q1
      have hnl : s.nts.length = 2 := by rw [q2]; rfl
      obtain ⟨nb, no, rfl, n0, n1⟩ := r2 0 (by rw [hnl]; decide)
      obtain ⟨nb', no', hnn, m0, m1⟩ := r2 1 (by rw [hnl]; decide)
      simp only [Option.some.injEq, Addr.mk.injEq, and_true] at hnn
      obtain ⟨rfl, rfl⟩ := hnn
      rw [q2] at n0 n1 m0 m1
      simp only [List.getD_cons_zero, List.getD_cons_succ, Nat.zero_mul, Nat.add_zero, Nat.one_mul] at n0 n1 m0 m1
      simp only [Option.getD_some, Option.isSome_some, hnl]
      have hX := heap_alloc_new w6 (.cells #[.bool true, .slice A3 s.acc.length c3, .slice (some ⟨nb, no, none⟩) 2 d3, .slice L3 (shortL s.loc).length e3] 29)
      have hXU : Up w6 (w6.alloc (.cells #[.bool true, .slice A3 s.acc.length c3, .slice (some ⟨nb, no, none⟩) 2 d3, .slice L3 (shortL s.loc).length e3] 29)) := (Up.refl _).alloc _
      have hns := neqNote_same2 1 0
      have n0' := (hXU.cell (p := ⟨nb, no, none⟩) (cell_lt n0)).trans n0
      have n1' := (hXU.cell (p := ⟨nb, no + 1, none⟩) (cell_lt n1)).trans n1
      have m0' := (hXU.cell (p := ⟨nb, no + 2, none⟩) (cell_lt m0)).trans m0
      have m1' := (hXU.cell (p := ⟨nb, no + 2 + 1, none⟩) (cell_lt m1)).trans m1
      have x0 := cell_of_row _ _ 0 _ _ _ hX
      have x2 := cell_of_row _ _ 2 _ _ _ hX
      simp only [List.getElem?_toArray, List.getElem?_cons_zero, List.getElem?_cons_succ] at x0 x2
      have HXU := Lib.hid (HU6.out.trans hXU)
      have g1 : wrap64 ((mn : Int) + 2) = (mn : Int) + 2 := IntWalk.wrap64_in _ (by omega)
      have g2 : decide ((mn : Int) + 2 < (mn : Int) + 1) = false := by rw [decide_eq_false_iff_not]; omega
      clear hX hXU r1 r2 r3 n0 n1 m0 m1 hnl q2 q3
      go_wp2_with fail
      refine (HAL.out _).mono ?_
      rintro e w8 ⟨rfl, hU8⟩
      have HU8 := Lib.hid (HXU.out.trans hU8)
      clear hU8 n0' n1' m0' m1' x0 x2
      go_wp2_with fail
      go_ret
      exact ⟨rfl, HU8.out⟩
    · dsimp only at q2 q3 q4
      obtain ⟨nl, hnl⟩ : ∃ k, s.nts.length = k := ⟨_, rfl⟩
      have hn2 : 2 ≤ nl := by rw [← hnl, q2]; simp
      obtain ⟨nb, no, rfl, n0, n1⟩ := r2 0 (by rw [hnl]; omega)
      obtain ⟨nb', no', hnn, m0, m1⟩ := r2 1 (by rw [hnl]; omega)
      simp only [Option.some.injEq, Addr.mk.injEq, and_true] at hnn
      obtain ⟨rfl, rfl⟩ := hnn
      obtain ⟨ab, ao, rfl, y0, y1, y2⟩ := r1 mn q3
      rw [q2] at n0 n1 m0 m1
      rw [q4] at y0 y1 y2
      simp only [List.cons_append, List.nil_append, List.getD_cons_zero, List.getD_cons_succ, Nat.zero_mul, Nat.add_zero, Nat.one_mul] at n0 n1 m0 m1
      dsimp only at y0 y1 y2
      obtain ⟨al, hal⟩ : ∃ k, s.acc.length = k := ⟨_, rfl⟩
      rw [hal] at q3
      simp only [hnl, hal]
      have hX := heap_alloc_new w6 (.cells #[.bool ro.isSome, .slice (some ⟨ab, ao, none⟩) al c3, .slice (some ⟨nb, no, none⟩) nl d3, .slice L3 (shortL s.loc).length e3] 29)
      have hXU : Up w6 (w6.alloc (.cells #[.bool ro.isSome, .slice (some ⟨ab, ao, none⟩) al c3, .slice (some ⟨nb, no, none⟩) nl d3, .slice L3 (shortL s.loc).length e3] 29)) := (Up.refl _).alloc _
      obtain ⟨w7, hw7⟩ : ∃ x, w6.alloc (.cells #[.bool ro.isSome, .slice (some ⟨ab, ao, none⟩) al c3, .slice (some ⟨nb, no, none⟩) nl d3, .slice L3 (shortL s.loc).length e3] 29) = x := ⟨_, rfl⟩
      rw [hw7] at hX hXU
      have hns := neqNote_same2 1 0
      have n0' := (hXU.cell (p := ⟨nb, no, none⟩) (cell_lt n0)).trans n0
      have n1' := (hXU.cell (p := ⟨nb, no + 1, none⟩) (cell_lt n1)).trans n1
      have m0' := (hXU.cell (p := ⟨nb, no + 2, none⟩) (cell_lt m0)).trans m0
      have m1' := (hXU.cell (p := ⟨nb, no + 2 + 1, none⟩) (cell_lt m1)).trans m1
      have y0' := (hXU.cell (p := ⟨ab, ao + mn * 3, none⟩) (cell_lt y0)).trans y0
      have y1' := (hXU.cell (p := ⟨ab, ao + mn * 3 + 1, none⟩) (cell_lt y1)).trans y1
      have y2' := (hXU.cell (p := ⟨ab, ao + mn * 3 + 2, none⟩) (cell_lt y2)).trans y2
      have HY := Lib.hid (And.intro m0' (And.intro m1' (And.intro y0' (And.intro y1' y2'))))
      have x1 := cell_of_row _ _ 1 _ _ _ hX
      have x2 := cell_of_row _ _ 2 _ _ _ hX
      simp only [List.getElem?_toArray, List.getElem?_cons_zero, List.getElem?_cons_succ] at x1 x2
      have HX12 := Lib.hid (And.intro x1 x2)
      have HXU := Lib.hid (HU6.out.trans hXU)
      have HRW7 := Lib.hid (HRW6.out.up hXU)
      have b20 := cell_of_row _ _ 0 _ _ _ ((hXU.block _ (Array.getElem?_eq_some_iff.1 HB6.out).1).trans HB6.out)
      simp only [List.getElem?_toArray, List.getElem?_cons_zero] at b20
      have HB20 := Lib.hid b20
      have g1 : wrap64 ((mn : Int) + 2) = (mn : Int) + 2 := IntWalk.wrap64_in _ (by omega)
      have g2 : decide ((mn : Int) + 2 < (mn : Int) + 2) = false := by simp
      have g3 : decide ((nl : Int) < 2) = false := by simp; omega
      have g4 : (1 : Int) < (nl : Int) := by omega
      have g5 : (0 : Int) < (nl : Int) := by omega
      have HQ1 := Lib.hid q1
      have HQ3 := Lib.hid q3
      have HAN := Lib.hid (And.intro hnl hal)
      clear hX hXU r1 r2 r3 n0 n1 m0 m1 y0 y1 y2 q2 q4 m0' y0' y1' y2' b20 x1 q1 q3 hnl hal HU6 HRW6 HB6
      obtain ⟨hm0', -⟩ := HY.out
      clear hn2 hl hs hro hme hn hm ht htn hmn hrw hm0 hm1 z1
      go_wp2_with fail
      clear n0' n1' m1' x2 hm0' hns hw7 g1 g2 g3 g5
      have HG4 := Lib.hid g4
      clear g4
      have hmn8 := HM.out.1
      go_loopw [15, 16] (fun u v wr => ∃ (j : Nat), 1 ≤ j ∧ j ≤ mn ∧ u = .int .i64 (mostU full j) ∧ v = .int .i64 j ∧ wr = w7) (fun _ v _ => mn - (intOf v).toNat)
      case atStart => exact ⟨1, by omega, by omega, by rw [mostU_one], rfl, by first | rfl | trivial⟩
      case round =>
        obtain ⟨j, hj1, hj, rfl, rfl, rfl⟩ := hrel
        by_cases hjl : j < mn
        · have hji : (j : Int) < mn := by omega
          have hj0 : (0 : Int) ≤ j := by omega
          have hjf : (j : Int) < ((ln + 40 : Nat) : Int) := by omega
          have HM1 := Lib.hid (mostU_succ full j hj1)
          obtain ⟨b, off, rfl, hx⟩ := HRW7.out j (by rw [HFL.out]; omega)
          unfold IVal at hx
          generalize full.getD j 0 = x at *
          generalize mostU full j = m at *
          go_wp2_with fail
          go_roundw
          case rel => exact ⟨j + 1, by omega, by omega, by rw [HM1.out]; exact congrArg (Value.int .i64) (by rw [Int.max_def]; split <;> split <;> omega), by go_num, trivial⟩
          case measure => simp [intOf]; omega
        · obtain rfl : j = mn := by omega
          clear hjl
          obtain ⟨h1, h2, h3, h4, h5⟩ := HY.out
          obtain ⟨x1, x2⟩ := HX12.out
          have g4 := HG4.out
          have hrw : wrap64 (1 + room) = 1 + room := IntWalk.wrap64_in _ (by have := HME.out.2.2; omega)
          have HQ1' := Lib.hid HQ1.out
          have hQ1 := HQ1.out
          have htm := HM.out.2
          have hMR := HMR.out
          generalize mostU full j = M at *
          have i0 : decide ((al : Int) ≤ (j : Int)) = false := by have := HQ3.out; rw [decide_eq_false_iff_not]; omega
          have i1 : (j : Int) < (al : Int) := by have := HQ3.out; omega
          have i2 : (0 : Int) ≤ (j : Int) := by omega
          have hw1 : wrap64 (M + 1) = M + 1 := IntWalk.wrap64_in _ (by omega)
          have hw2 : wrap64 ((j : Int) + (tn : Int)) = (j : Int) + (tn : Int) := IntWalk.wrap64_in _ (by omega)
          have hea := eqAcc_same 2 ((j : Int) + (tn : Int)) (M + 1)
          have i3 : decide (M + 1 ≤ 1 + room) = true := by rw [decide_eq_true_iff]; exact hQ1
          have i4 : M ≤ room := by omega
          have hrr : wrap64 room = room := IntWalk.wrap64_in _ (by have := HME.out.2.2; omega)
          have hbx := heap_alloc_new wr (.cells #[.int .i64 2, .int .i64 ((j : Int) + (tn : Int)), .int .i64 (M + 1)] 45)
          have hxu : Up wr (wr.alloc (.cells #[.int .i64 2, .int .i64 ((j : Int) + (tn : Int)), .int .i64 (M + 1)] 45)) := (Up.refl _).alloc _
          generalize hw9 : wr.alloc (.cells #[.int .i64 2, .int .i64 ((j : Int) + (tn : Int)), .int .i64 (M + 1)] 45) = w9 at *
          have z0 := cell_of_row _ _ 0 _ _ _ hbx
          have z1' := cell_of_row _ _ 1 _ _ _ hbx
          have z2' := cell_of_row _ _ 2 _ _ _ hbx
          simp only [List.getElem?_toArray, List.getElem?_cons_zero, List.getElem?_cons_succ] at z0 z1' z2'
          have h1' := (hxu.cell (p := ⟨nb, no + 2, none⟩) (cell_lt h1)).trans h1
          have x2' := (hxu.cell (p := ⟨w6.heap.size, 2, none⟩) (cell_lt x2)).trans x2
          have t0' := (hxu.cell (p := ⟨w.heap.size + 1, 0, none⟩) (cell_lt HB20.out)).trans HB20.out
          have HXU9 := Lib.hid (HXU.out.trans hxu)
          clear hbx hxu hQ1 hMR hmn8 htm hj1 hj h2
          go_wp2_with fail
          refine (HAL.out _).mono ?_
          rintro e w10 ⟨rfl, hU10⟩
          have HU10 := Lib.hid (HXU9.out.trans hU10)
          clear hU10
          go_wp2_with fail
          go_ret
          exact ⟨rfl, HU10.out⟩
  · have z1 : ((300 : Int) < (l.length : Int)) = True := by simp; omega
    clear hr
    go_enter Try.func12, Try.ntmps12
    go_wp2_with fail
    refine (HAL.out _).mono ?_
    rintro e w1 ⟨rfl, hU⟩
    go_wp2_with fail
    go_ret
    exact ⟨rfl, hU⟩

end Go.Proofs.Ytleebaebihbcdaa
