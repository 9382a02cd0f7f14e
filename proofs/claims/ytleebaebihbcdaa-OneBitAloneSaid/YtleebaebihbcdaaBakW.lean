/-
  The bakery: the walk of Acquire, of which one keeps what the doorway does.
-/
import Derived.Test.YtleebaebihbcdaaBakP
import Derived.BigQuiet
set_option linter.unusedVariables false
set_option linter.unusedSimpArgs false
namespace Go.Proofs.Ytleebaebihbcdaa
open Go.RowKit

def BakR (ans : List Int) (many t : Nat) (room : Int) (r : Option Int × TS) : Prop :=
  (r.1 = some 11 ∧ r.2.nts = [(1, 0), (4, (many : Int) + 1)] ∧ room < mostU ans many + 1) ∨
  (mostU ans many + 1 ≤ room ∧ (∃ more, r.2.nts = [(1, 0), (2, (many : Int) + 2)] ++ more) ∧ many < r.2.acc.length ∧ r.2.acc.getD many (0, 0, 0) = (2, (many : Int) + (t : Int), mostU ans many + 1) ∧ (many = 1 → r.1 = some 0 ∧ r.2.acc.length = 3 ∧ r.2.nts.length = 3))
/-- Ahead of the ticket. -/
structure BakA (ans : List Int) (n : Nat) (s : TS) : Prop where
  an : s.ans = ans
  nts : s.nts = [(1, 0)]
  acc : s.acc.length = n
/-- Behind the door. -/
structure BakB (ans : List Int) (many t : Nat) (s : TS) : Prop where
  an : s.ans = ans
  nts : ∃ more, s.nts = [(1, 0), (2, (many : Int) + 2)] ++ more
  few : s.nts.length ≤ 10
  len : many + 2 ≤ s.acc.length
  tik : s.acc.getD many (0, 0, 0) = (2, (many : Int) + (t : Int), mostU ans many + 1)
  one : many = 1 → s.acc.length = 3 ∧ s.nts.length = 2
theorem BakA.asked {ans : List Int} {n : Nat} {s : TS} (h : BakA ans n s) (a : Int × Int × Int) : BakA ans (n + 1) (s.asked a) := ⟨h.an, h.nts, by unfold TS.asked; simp [h.acc]⟩
theorem BakB.asked {ans : List Int} {many t : Nat} {s : TS} (h : BakB ans many t s) (hm1 : many ≠ 1) (a : Int × Int × Int) : BakB ans many t (s.asked a) := by
  refine ⟨h.an, h.nts, h.few, by unfold TS.asked; simp; have := h.len; omega, ?_, fun e => absurd e hm1⟩
  have := h.len
  unfold TS.asked
  show (s.acc ++ [a]).getD many (0, 0, 0) = _
  rw [List.getD_eq_getElem?_getD, List.getElem?_append_left (by omega), ← List.getD_eq_getElem?_getD]
  exact h.tik
theorem wait_cases (c1 c2 c3 c4 : Bool) : c1 = false ∨ (c1 = true ∧ c2 = false) ∨ (c1 = true ∧ c2 = true ∧ c3 = false ∧ c4 = false) ∨ (c1 = true ∧ c2 = true ∧ c3 = true) ∨ (c1 = true ∧ c2 = true ∧ c3 = false ∧ c4 = true) := by
  cases c1 <;> cases c2 <;> cases c3 <;> cases c4 <;> simp
theorem cN_eq (t : Nat) : cN t (t + 1) = cN t t := by unfold cN; rw [if_pos (by omega), if_neg (by omega)]; omega
theorem cN_ne (t j : Nat) (h : j ≠ t) : cN t (j + 1) = cN t j + 1 := by unfold cN; split <;> split <;> omega
theorem cN_le (t j : Nat) : 1 ≤ cN t j ∧ cN t j ≤ j + 1 := by unfold cN; split <;> omega
theorem cN_end (t m : Nat) (h : t < m) : cN t m = m := by unfold cN; rw [if_pos h]; omega
theorem far_lock {B k : Nat} {w : World} {cs : Array Value} (h : w.heap[k]? = some (.cells cs 68 (0, 0))) : Far B w k := fun _ cs' e he => by
  rw [h] at he
  simp only [Option.some.injEq, Obj.cells.injEq, and_true] at he
  obtain ⟨_, rfl⟩ := he
  decide
theorem TS.set_same (s : TS) (i x : Int) : (s.set i x).ans = s.ans ∧ (s.set i x).acc = s.acc ∧ (s.set i x).nts = s.nts := by
  unfold TS.set
  split
  · exact ⟨rfl, rfl, rfl⟩
  split
  · split <;> exact ⟨rfl, rfl, rfl⟩
  · exact ⟨rfl, rfl, rfl⟩
/-- The tape, and the lock in its box. -/
structure LkAt (W : World) (g B : Nat) (cs : Array Value) (wr : World) (s : TS) : Prop where
  tape : Tape1 wr g B s
  tk : TK g B W wr
  box : wr.heap[W.heap.size]? = some (.cells cs 68 (0, 0))
  ne : g ≠ W.heap.size
theorem LkAt.next {W wr w' : World} {g B : Nat} {cs : Array Value} {s s' : TS} (h : LkAt W g B cs wr s) (ht : Tape1 w' g B s') (hk : TK g B wr w') : LkAt W g B cs w' s' :=
  ⟨ht, h.tk.trans hk, (hk.block _ (Array.getElem?_eq_some_iff.1 h.box).1 (fun e => h.ne e.symm) (far_lock h.box)).trans h.box, h.ne⟩
theorem LkAt.up {W wr w' : World} {g B : Nat} {cs : Array Value} {s : TS} (h : LkAt W g B cs wr s) (u : Up wr w') : LkAt W g B cs w' s := h.next (h.tape.up u) (TK.ofUp u)

set_option maxRecDepth 10000 in
set_option maxHeartbeats 4000000 in
theorem bacquire_any (ans : List Int) (many t : Nat) (room : Int) (g B : Nat) (W : World) (hm : 1 ≤ many ∧ many ≤ 8) (ht : t < many) (hr : 1 ≤ room ∧ room ≤ 65536) (hans : ∀ x, x ∈ ans → 0 ≤ x ∧ x ≤ 1099511627776) (hlen : many + 2 ≤ ans.length ∨ (many + 1 ≤ ans.length ∧ room < mostU ans many + 1)) (h : Tape1 W g B ⟨ans, [], [], []⟩) :
    Calls Try.prog 60 #[.pointer (some ⟨g, 0, none⟩), .agg #[.int .i64 1, .int .i64 many, .int .i64 0, .int .i64 0, .int .i64 0, .int .i64 room], .int .i64 t] W fun e w' => ∃ r, BakR ans many t room r ∧ TPost encI g B W r e w' := by
  have hb := heap_alloc_new W (.cells #[.int .i64 1, .int .i64 many, .int .i64 0, .int .i64 0, .int .i64 0, .int .i64 room] 68)
  have hu : Up W (W.alloc (.cells #[.int .i64 1, .int .i64 many, .int .i64 0, .int .i64 0, .int .i64 0, .int .i64 room] 68)) := (Up.refl W).alloc _
  have c0 := cell_of_row _ _ 0 _ _ _ hb
  have c1 := cell_of_row _ _ 1 _ _ _ hb
  have c2 := cell_of_row _ _ 2 _ _ _ hb
  have c3 := cell_of_row _ _ 3 _ _ _ hb
  have c4 := cell_of_row _ _ 4 _ _ _ hb
  have c5 := cell_of_row _ _ 5 _ _ _ hb
  simp only [List.getElem?_toArray, List.getElem?_cons_zero, List.getElem?_cons_succ] at c0 c1 c2 c3 c4 c5
  have HK1 := Lib.hid (show LkAt W g B #[.int .i64 1, .int .i64 many, .int .i64 0, .int .i64 0, .int .i64 0, .int .i64 room] _ _ from ⟨h.up hu, TK.ofUp (g := g) (B := B) hu, hb, by have := h.1.gs; omega⟩)
  have HSZ := Lib.hid (fun W' => bsizes_any many room 1 0 0 0 W' (by omega) (by omega))
  clear hb hu h
  go_enter Try.func60, Try.ntmps60
  go_wp2_with fail
  refine (HSZ.out _).mono ?_
  rintro e w2 ⟨rfl, hu2⟩
  have HK2 := Lib.hid (HK1.out.up hu2)
  clear c0 c1 c2 c3 c4 c5
  have c3 := cell_of_row _ _ 3 _ _ _ HK2.out.box
  simp only [List.getElem?_toArray, List.getElem?_cons_zero, List.getElem?_cons_succ] at c3
  clear hu2 HK1
  go_wp2_with fail
  go_quiet (fail)
  rename_i nq
  have HK3 := Lib.hid (HK2.out.up ((Up.refl w2).drewN nq))
  clear c3 HK2
  generalize w2.drewN nq = w2' at *
  go_wp2_with fail
  refine (note_any g B 1 ⟨ans, [], [], []⟩ _ HK3.out.tape (show 0 < 1000000 by decide)).mono ?_
  rintro e w3 ⟨rfl, h3, k3⟩
  obtain ⟨s3, hs3⟩ : ∃ s, (⟨ans, [], [], []⟩ : TS).noted 1 = s := ⟨_, rfl⟩
  rw [hs3] at h3
  have HA3 := Lib.hid (show BakA ans 0 s3 from by subst hs3; exact ⟨rfl, rfl, rfl⟩)
  have HK4 := Lib.hid (HK3.out.next h3 k3)
  clear h3 k3 hs3 HK3
  go_wp2_with fail
  refine (write_ok g B _ _ s3 _ HK4.out.tape (by rw [HA3.out.an, HA3.out.acc]; omega)).mono ?_
  rintro e w4 ⟨rfl, h4, k4⟩
  have HA5 := Lib.hid (HA3.out.asked (2, (t : Int), 1))
  have HK5 := Lib.hid (HK4.out.next h4 k4)
  clear h4 k4 HK4 HA3
  generalize s3.asked (2, (t : Int), 1) = s5 at *
  go_wp2_with fail
  go_loopw [11, 34] (fun u v wr => ∃ (j : Nat) (s : TS), j ≤ many ∧ u = .int .i64 (mostU ans (cN t j)) ∧ v = .int .i64 j ∧ Hid (LkAt W g B #[.int .i64 1, .int .i64 many, .int .i64 0, .int .i64 0, .int .i64 0, .int .i64 room] wr s ∧ BakA ans (cN t j) s)) (fun _ v _ => many - (intOf v).toNat)
  case atStart => exact ⟨0, s5, by omega, rfl, rfl, Lib.hid ⟨HK5.out, HA5.out⟩⟩
  case round =>
    obtain ⟨j, s, hj, rfl, rfl, HS⟩ := hrel
    by_cases hjl : j < many
    · have hji : (j : Int) < many := by omega
      have hj0 : (0 : Int) ≤ j := by omega
      by_cases he : j = t
      · subst he
        have HC := Lib.hid (cN_eq j)
        have hne : ((j : Int) != (j : Int)) = false := by simp
        go_wp2_with fail
        go_roundw
        case rel => exact ⟨j + 1, s, by omega, by rw [HC.out], by go_num, Lib.hid (by rw [HC.out]; exact HS.out)⟩
        case measure => simp [intOf]; omega
      · have HC := Lib.hid (cN_ne t j he)
        have HM := Lib.hid (mostU_succ ans (cN t j) (cN_le t j).1)
        have hne : ((j : Int) != (t : Int)) = true := by rw [bne_iff_ne]; omega
        have HL := Lib.hid (show s.acc.length < s.ans.length from by rw [HS.out.2.an, HS.out.2.acc]; have := cN_le t j; omega)
        have HTD := Lib.hid (show s.told = ans.getD (cN t j) 0 from by unfold TS.told; rw [HS.out.2.an, HS.out.2.acc])
        go_wp2_with fail
        refine (read_ok g B _ s _ HS.out.1.tape HL.out).mono ?_
        rintro e w6 ⟨rfl, h6, k6⟩
        have HK6 := Lib.hid (HS.out.1.next h6 k6)
        clear h6 k6
        rw [HTD.out]
        generalize ans.getD (cN t j) 0 = x at *
        go_wp2_with fail
        go_roundw
        case rel => exact ⟨j + 1, _, by omega, by rw [HC.out, HM.out]; exact congrArg (Value.int .i64) (by rw [Int.max_def]; split <;> split <;> omega), by go_num, Lib.hid ⟨HK6.out, by rw [HC.out]; exact HS.out.2.asked _⟩⟩
        case measure => simp [intOf]; omega
    · obtain rfl : j = many := by omega
      clear hjl
      rw [cN_end t j ht] at HS ⊢
      have hM := mostU_in ans 1099511627776 (by decide) hans j
      have HR1 := Lib.hid (fun (r : Option Int × TS) (h : (r.1 = some 11 ∧ r.2.nts = [(1, 0), (4, (j : Int) + 1)] ∧ room < mostU ans j + 1)) => (show BakR ans j t room r from .inl h))
      have HR2 := Lib.hid (fun (r : Option Int × TS) (h : mostU ans j + 1 ≤ room ∧ (∃ more, r.2.nts = [(1, 0), (2, (j : Int) + 2)] ++ more) ∧ j < r.2.acc.length ∧ r.2.acc.getD j (0, 0, 0) = (2, (j : Int) + (t : Int), mostU ans j + 1) ∧ (j = 1 → r.1 = some 0 ∧ r.2.acc.length = 3 ∧ r.2.nts.length = 3)) => (show BakR ans j t room r from .inr h))
      generalize hMu : mostU ans j = M at *
      have hw : wrap64 (M + 1) = M + 1 := IntWalk.wrap64_in _ (by omega)
      by_cases hroom : room < M + 1
      · go_wp2_with fail
        refine (write_ok g B _ _ s _ HS.out.1.tape (by rw [HS.out.2.an, HS.out.2.acc]; omega)).mono ?_
        rintro e w6 ⟨rfl, h6, k6⟩
        have HA6 := Lib.hid (HS.out.2.asked (2, (t : Int), 0))
        have HK6 := Lib.hid (HS.out.1.next h6 k6)
        clear h6 k6
        generalize s.asked (2, (t : Int), 0) = s6 at *
        go_wp2_with fail
        refine (note_any g B 4 s6 _ HK6.out.tape (by rw [HA6.out.nts]; decide)).mono ?_
        rintro e w7 ⟨rfl, h7, k7⟩
        have HK7 := Lib.hid (HK6.out.next h7 k7)
        clear h7 k7
        go_wp2_with fail
        go_ret
        exact ⟨(some 11, s6.noted 4), HR1.out _ ⟨rfl, by show s6.nts ++ [(4, (s6.acc.length : Int))] = _; rw [HA6.out.nts, HA6.out.acc]; rfl, hroom⟩, TPost.some rfl ⟨rfl, HK7.out.tape, HK7.out.tk⟩⟩
      · go_wp2_with fail
        refine (write_ok g B _ _ s _ HS.out.1.tape (by rw [HS.out.2.an, HS.out.2.acc]; omega)).mono ?_
        rintro e w6 ⟨rfl, h6, k6⟩
        have HA6 := Lib.hid (HS.out.2.asked (2, (j : Int) + (t : Int), M + 1))
        have HG6 := Lib.hid (show (s.asked (2, (j : Int) + (t : Int), M + 1)).acc.getD j (0, 0, 0) = (2, (j : Int) + (t : Int), M + 1) from by
          unfold TS.asked
          show (s.acc ++ [_]).getD j (0, 0, 0) = _
          rw [List.getD_eq_getElem?_getD, List.getElem?_append_right (by rw [HS.out.2.acc]; exact Nat.le_refl _), HS.out.2.acc, Nat.sub_self]; rfl)
        have HK6 := Lib.hid (HS.out.1.next h6 k6)
        clear h6 k6
        generalize s.asked (2, (j : Int) + (t : Int), M + 1) = s6 at *
        have c4 := cell_of_row _ _ 4 _ _ _ HK6.out.box
        simp only [List.getElem?_toArray, List.getElem?_cons_zero, List.getElem?_cons_succ] at c4
        go_wp2_with fail
        refine (set_any g B _ _ s6 _ HK6.out.tape).mono ?_
        rintro e w7 ⟨rfl, h7, k7⟩
        clear c4
        have HK7 := Lib.hid (HK6.out.next h7 k7)
        obtain ⟨q1, q2, q3⟩ := s6.set_same 0 (M + 1)
        have HA7 := Lib.hid (show BakA ans (j + 1) (s6.set 0 (M + 1)) from ⟨q1.trans HA6.out.an, q3.trans HA6.out.nts, by rw [q2]; exact HA6.out.acc⟩)
        have HG7 := Lib.hid (show (s6.set 0 (M + 1)).acc.getD j (0, 0, 0) = (2, (j : Int) + (t : Int), M + 1) from by rw [q2]; exact HG6.out)
        clear h7 k7 q1 q2 q3
        generalize s6.set 0 (M + 1) = s7 at *
        go_wp2_with fail
        refine (write_ok g B _ _ s7 _ HK7.out.tape (by rw [HA7.out.an, HA7.out.acc]; omega)).mono ?_
        rintro e w8 ⟨rfl, h8, k8⟩
        have HA8 := Lib.hid (HA7.out.asked (2, (t : Int), 0))
        have HG8 := Lib.hid (show (s7.asked (2, (t : Int), 0)).acc.getD j (0, 0, 0) = (2, (j : Int) + (t : Int), M + 1) from by
          unfold TS.asked
          show (s7.acc ++ [_]).getD j (0, 0, 0) = _
          rw [List.getD_eq_getElem?_getD, List.getElem?_append_left (by rw [HA7.out.acc]; omega), ← List.getD_eq_getElem?_getD]; exact HG7.out)
        have HK8 := Lib.hid (HK7.out.next h8 k8)
        clear h8 k8
        generalize s7.asked (2, (t : Int), 0) = s8 at *
        go_wp2_with fail
        refine (note_any g B 2 s8 _ HK8.out.tape (by rw [HA8.out.nts]; decide)).mono ?_
        rintro e w9 ⟨rfl, h9, k9⟩
        have HK9 := Lib.hid (HK8.out.next h9 k9)
        have HB9 := Lib.hid (show BakB ans j t (s8.noted 2) from ⟨HA8.out.an, ⟨[], by show s8.nts ++ [(2, (s8.acc.length : Int))] = _; rw [HA8.out.nts, HA8.out.acc]; rfl⟩, by show (s8.nts ++ [(2, (s8.acc.length : Int))]).length ≤ 10; rw [HA8.out.nts]; simp, by show j + 2 ≤ s8.acc.length; rw [HA8.out.acc]; exact Nat.le_refl _, by rw [hMu]; exact HG8.out, fun e => ⟨by show s8.acc.length = 3; rw [HA8.out.acc]; omega, by show (s8.nts ++ [(2, (s8.acc.length : Int))]).length = 2; rw [HA8.out.nts]; rfl⟩⟩)
        clear h9 k9
        generalize s8.noted 2 = s9 at *
        clear HA6 HA7 HA8 HG6 HG7 HG8 HK6 HK7 HK8
        go_wp2_with fail
        go_loopw [79] (fun v wr => ∃ (i : Nat) (s : TS), i ≤ j ∧ v = .int .i64 i ∧ Hid (LkAt W g B #[.int .i64 1, .int .i64 j, .int .i64 0, .int .i64 0, .int .i64 0, .int .i64 room] wr s ∧ BakB ans j t s)) (fun v _ => j - (intOf v).toNat)
        case atStart => exact ⟨0, s9, by omega, rfl, Lib.hid ⟨HK9.out, HB9.out⟩⟩
        case round =>
          obtain ⟨i, s, hi, rfl, HS⟩ := hrel
          by_cases hil : i < j
          · have hii : (i : Int) < j := by omega
            have hi0 : (0 : Int) ≤ i := by omega
            by_cases he : i = t
            · subst he
              have hne : ((i : Int) == (i : Int)) = true := by simp
              go_wp2_with fail
              refine wp_scope_frame [] (fun _ _ => False) (fun _ => 0) ?_ (fun l f w' h => h.elim)
              intro J hJ
              go_wp2_with fail
              try dsimp only [jumpsTo]
              go_wp2_with fail
              go_roundw
              case rel => exact ⟨i + 1, s, by omega, by go_num, HS⟩
              case measure => simp [intOf]; omega
            · have hne : ((i : Int) == (t : Int)) = false := by rw [beq_eq_false_iff_ne]; omega
              have hj1 : j ≠ 1 := by omega
              go_wp2_with fail
              refine wp_scope_frame [14, 82, 83, 84, 85, 86, 87, 88, 89, 90, 91, 92, 93, 94, 95, 96, 97, 98, 99, 100, 101, 102, 103, 104, 105, 106, 107, 108, 109, 110, 111, 112] (fun l w' => (l = 0 ∨ l = 1) ∧ ∃ s, Hid (LkAt W g B #[.int .i64 1, .int .i64 j, .int .i64 0, .int .i64 0, .int .i64 0, .int .i64 room] w' s ∧ BakB ans j t s)) (fun w' => ans.length + 1 - askedN g w') ?first ?pass
              case first =>
                intro J hJ
                go_wp2_with fail
                refine wp_label ?_
                go_wp2_with fail
                refine (read_two g B _ s _ HS.out.1.tape).mono ?_
                rintro e w20 (⟨rfl, ht, hk⟩ | ⟨rfl, hlt, ht, hk⟩)
                · have HF := Lib.hid (show ∃ r, BakR ans j t room r ∧ TPost encI g B W r (.panicked (stopC g)) w20 from ⟨(none, s.asked (1, (i : Int), 0)), HR2.out _ ⟨hroom, (HS.out.2.asked hj1 (1, (i : Int), 0)).nts, by have := (HS.out.2.asked hj1 (1, (i : Int), 0)).len; show j < (s.asked (1, (i : Int), 0)).acc.length; omega, by rw [← hMu]; exact (HS.out.2.asked hj1 (1, (i : Int), 0)).tik, fun e => absurd e hj1⟩, TPost.none rfl ⟨rfl, ht.out, HS.out.1.tk.trans hk.out⟩⟩)
                  go_wp2_with fail
                  exact ⟨rfl, HF.out⟩
                · have HN20 := Lib.hid (And.intro (HS.out.1.next ht.out hk.out) (HS.out.2.asked hj1 (1, (i : Int), 0)))
                  have HMU20 := Lib.hid (show ans.length + 1 - askedN g w20 < ans.length + 1 - s.acc.length from by
                    rw [askedN_eq ht.out]
                    have h1 := hlt.out
                    rw [HS.out.2.an] at h1
                    show ans.length + 1 - (s.acc ++ [_]).length < _
                    rw [List.length_append, List.length_singleton]
                    omega)
                  have HLE20 := Lib.hid (show s.acc.length ≤ (s.asked (1, (i : Int), 0)).acc.length from by unfold TS.asked; simp)
                  clear ht hk hlt
                  generalize s.told = y at *
                  generalize s.asked (1, (i : Int), 0) = s20 at *
                  cases e0 : (y != 0)
                  rotate_left
                  · go_wp2_with fail
                    refine wp_goto ?_
                    try dsimp only [Exit.then, jumpsTo]
                    exact hJ.out 0 _ _ (by unfold Only; kernel_rfl) ⟨.inl rfl, s20, HN20⟩
                  · go_wp2_with fail
                    refine wp_label ?_
                    go_wp2_with fail
                    refine (read_two g B _ s20 _ HN20.out.1.tape).mono ?_
                    rintro e w21 (⟨rfl, ht, hk⟩ | ⟨rfl, hlt, ht, hk⟩)
                    · have HF := Lib.hid (show ∃ r, BakR ans j t room r ∧ TPost encI g B W r (.panicked (stopC g)) w21 from ⟨(none, s20.asked (1, (j : Int) + (i : Int), 0)), HR2.out _ ⟨hroom, (HN20.out.2.asked hj1 (1, (j : Int) + (i : Int), 0)).nts, by have := (HN20.out.2.asked hj1 (1, (j : Int) + (i : Int), 0)).len; show j < (s20.asked (1, (j : Int) + (i : Int), 0)).acc.length; omega, by rw [← hMu]; exact (HN20.out.2.asked hj1 (1, (j : Int) + (i : Int), 0)).tik, fun e => absurd e hj1⟩, TPost.none rfl ⟨rfl, ht.out, HN20.out.1.tk.trans hk.out⟩⟩)
                      go_wp2_with fail
                      exact ⟨rfl, HF.out⟩
                    · have HN21 := Lib.hid (And.intro (HN20.out.1.next ht.out hk.out) (HN20.out.2.asked hj1 (1, (j : Int) + (i : Int), 0)))
                      have HMU21 := Lib.hid (show ans.length + 1 - askedN g w21 < ans.length + 1 - s20.acc.length from by
                        rw [askedN_eq ht.out]
                        have h1 := hlt.out
                        rw [HN20.out.2.an] at h1
                        show ans.length + 1 - (s20.acc ++ [_]).length < _
                        rw [List.length_append, List.length_singleton]
                        omega)
                      clear ht hk hlt
                      generalize s20.told = x at *
                      generalize s20.asked (1, (j : Int) + (i : Int), 0) = s21 at *
                      rcases wait_cases (x != 0) (decide (x ≤ M + 1)) (x != M + 1) (decide (i < t)) with e1 | ⟨e1, e2⟩ | ⟨e1, e2, e3, e4⟩ | ⟨e1, e2, e3⟩ | ⟨e1, e2, e3, e4⟩
                      · go_wp2_with fail
                        try dsimp only [jumpsTo]
                        go_wp2_with fail
                        go_roundw
                        case rel =>
                          exact ⟨i + 1, s21, by omega, by go_num, HN21⟩
                        case measure => simp [intOf]; omega
                      · go_wp2_with fail
                        try dsimp only [jumpsTo]
                        go_wp2_with fail
                        go_roundw
                        case rel =>
                          exact ⟨i + 1, s21, by omega, by go_num, HN21⟩
                        case measure => simp [intOf]; omega
                      · have e5 : ¬ i < t := by simpa using e4
                        go_wp2_with fail
                        try dsimp only [jumpsTo]
                        go_wp2_with fail
                        go_roundw
                        case rel =>
                          exact ⟨i + 1, s21, by omega, by go_num, HN21⟩
                        case measure => simp [intOf]; omega
                      · go_wp2_with fail
                        refine wp_goto ?_
                        try dsimp only [Exit.then, jumpsTo]
                        exact hJ.out 1 _ _ (by unfold Only; kernel_rfl) ⟨.inr rfl, s21, HN21⟩
                      · have e5 : i < t := by simpa using e4
                        go_wp2_with fail
                        refine wp_goto ?_
                        try dsimp only [Exit.then, jumpsTo]
                        exact hJ.out 1 _ _ (by unfold Only; kernel_rfl) ⟨.inr rfl, s21, HN21⟩
              case pass =>
                rintro l f w' ⟨hl, s, HS⟩
                rcases hl with rfl | rfl
                · refine ⟨_, rfl, fun J hJ => ?_⟩
                  simp only [puts, List.map_cons, List.map_nil, Act.put, List.setIfInBounds_toArray, List.set_cons_zero, List.set_cons_succ]
                  go_wp2_with fail
                  refine (read_two g B _ s _ HS.out.1.tape).mono ?_
                  rintro e w20 (⟨rfl, ht, hk⟩ | ⟨rfl, hlt, ht, hk⟩)
                  · have HF := Lib.hid (show ∃ r, BakR ans j t room r ∧ TPost encI g B W r (.panicked (stopC g)) w20 from ⟨(none, s.asked (1, (i : Int), 0)), HR2.out _ ⟨hroom, (HS.out.2.asked hj1 (1, (i : Int), 0)).nts, by have := (HS.out.2.asked hj1 (1, (i : Int), 0)).len; show j < (s.asked (1, (i : Int), 0)).acc.length; omega, by rw [← hMu]; exact (HS.out.2.asked hj1 (1, (i : Int), 0)).tik, fun e => absurd e hj1⟩, TPost.none rfl ⟨rfl, ht.out, HS.out.1.tk.trans hk.out⟩⟩)
                    go_wp2_with fail
                    exact ⟨rfl, HF.out⟩
                  · have HN20 := Lib.hid (And.intro (HS.out.1.next ht.out hk.out) (HS.out.2.asked hj1 (1, (i : Int), 0)))
                    have HMU20 := Lib.hid (show ans.length + 1 - askedN g w20 < ans.length + 1 - s.acc.length from by
                      rw [askedN_eq ht.out]
                      have h1 := hlt.out
                      rw [HS.out.2.an] at h1
                      show ans.length + 1 - (s.acc ++ [_]).length < _
                      rw [List.length_append, List.length_singleton]
                      omega)
                    have HLE20 := Lib.hid (show s.acc.length ≤ (s.asked (1, (i : Int), 0)).acc.length from by unfold TS.asked; simp)
                    clear ht hk hlt
                    generalize s.told = y at *
                    generalize s.asked (1, (i : Int), 0) = s20 at *
                    cases e0 : (y != 0)
                    rotate_left
                    · go_wp2_with fail
                      refine wp_goto ?_
                      try dsimp only [Exit.then, jumpsTo]
                      exact hJ.out 0 _ _ (by unfold Only; kernel_rfl) ⟨.inl rfl, s20, HN20⟩ (by show ans.length + 1 - askedN g w20 < ans.length + 1 - askedN g w'; rw [askedN_eq HS.out.1.tape]; exact HMU20.out)
                    · go_wp2_with fail
                      refine wp_label ?_
                      go_wp2_with fail
                      refine (read_two g B _ s20 _ HN20.out.1.tape).mono ?_
                      rintro e w21 (⟨rfl, ht, hk⟩ | ⟨rfl, hlt, ht, hk⟩)
                      · have HF := Lib.hid (show ∃ r, BakR ans j t room r ∧ TPost encI g B W r (.panicked (stopC g)) w21 from ⟨(none, s20.asked (1, (j : Int) + (i : Int), 0)), HR2.out _ ⟨hroom, (HN20.out.2.asked hj1 (1, (j : Int) + (i : Int), 0)).nts, by have := (HN20.out.2.asked hj1 (1, (j : Int) + (i : Int), 0)).len; show j < (s20.asked (1, (j : Int) + (i : Int), 0)).acc.length; omega, by rw [← hMu]; exact (HN20.out.2.asked hj1 (1, (j : Int) + (i : Int), 0)).tik, fun e => absurd e hj1⟩, TPost.none rfl ⟨rfl, ht.out, HN20.out.1.tk.trans hk.out⟩⟩)
                        go_wp2_with fail
                        exact ⟨rfl, HF.out⟩
                      · have HN21 := Lib.hid (And.intro (HN20.out.1.next ht.out hk.out) (HN20.out.2.asked hj1 (1, (j : Int) + (i : Int), 0)))
                        have HMU21 := Lib.hid (show ans.length + 1 - askedN g w21 < ans.length + 1 - s20.acc.length from by
                          rw [askedN_eq ht.out]
                          have h1 := hlt.out
                          rw [HN20.out.2.an] at h1
                          show ans.length + 1 - (s20.acc ++ [_]).length < _
                          rw [List.length_append, List.length_singleton]
                          omega)
                        clear ht hk hlt
                        generalize s20.told = x at *
                        generalize s20.asked (1, (j : Int) + (i : Int), 0) = s21 at *
                        rcases wait_cases (x != 0) (decide (x ≤ M + 1)) (x != M + 1) (decide (i < t)) with e1 | ⟨e1, e2⟩ | ⟨e1, e2, e3, e4⟩ | ⟨e1, e2, e3⟩ | ⟨e1, e2, e3, e4⟩
                        · go_wp2_with fail
                          try dsimp only [jumpsTo]
                          go_wp2_with fail
                          go_roundw
                          case rel =>
                            exact ⟨i + 1, s21, by omega, by go_num, HN21⟩
                          case measure => simp [intOf]; omega
                        · go_wp2_with fail
                          try dsimp only [jumpsTo]
                          go_wp2_with fail
                          go_roundw
                          case rel =>
                            exact ⟨i + 1, s21, by omega, by go_num, HN21⟩
                          case measure => simp [intOf]; omega
                        · have e5 : ¬ i < t := by simpa using e4
                          go_wp2_with fail
                          try dsimp only [jumpsTo]
                          go_wp2_with fail
                          go_roundw
                          case rel =>
                            exact ⟨i + 1, s21, by omega, by go_num, HN21⟩
                          case measure => simp [intOf]; omega
                        · go_wp2_with fail
                          refine wp_goto ?_
                          try dsimp only [Exit.then, jumpsTo]
                          exact hJ.out 1 _ _ (by unfold Only; kernel_rfl) ⟨.inr rfl, s21, HN21⟩ (by show ans.length + 1 - askedN g w21 < ans.length + 1 - askedN g w'; rw [askedN_eq HS.out.1.tape]; have h1 := HMU21.out; have h2 := HLE20.out; omega)
                        · have e5 : i < t := by simpa using e4
                          go_wp2_with fail
                          refine wp_goto ?_
                          try dsimp only [Exit.then, jumpsTo]
                          exact hJ.out 1 _ _ (by unfold Only; kernel_rfl) ⟨.inr rfl, s21, HN21⟩ (by show ans.length + 1 - askedN g w21 < ans.length + 1 - askedN g w'; rw [askedN_eq HS.out.1.tape]; have h1 := HMU21.out; have h2 := HLE20.out; omega)
                · refine ⟨_, rfl, fun J hJ => ?_⟩
                  simp only [puts, List.map_cons, List.map_nil, Act.put, List.setIfInBounds_toArray, List.set_cons_zero, List.set_cons_succ]
                  go_wp2_with fail
                  refine (read_two g B _ s _ HS.out.1.tape).mono ?_
                  rintro e w21 (⟨rfl, ht, hk⟩ | ⟨rfl, hlt, ht, hk⟩)
                  · have HF := Lib.hid (show ∃ r, BakR ans j t room r ∧ TPost encI g B W r (.panicked (stopC g)) w21 from ⟨(none, s.asked (1, (j : Int) + (i : Int), 0)), HR2.out _ ⟨hroom, (HS.out.2.asked hj1 (1, (j : Int) + (i : Int), 0)).nts, by have := (HS.out.2.asked hj1 (1, (j : Int) + (i : Int), 0)).len; show j < (s.asked (1, (j : Int) + (i : Int), 0)).acc.length; omega, by rw [← hMu]; exact (HS.out.2.asked hj1 (1, (j : Int) + (i : Int), 0)).tik, fun e => absurd e hj1⟩, TPost.none rfl ⟨rfl, ht.out, HS.out.1.tk.trans hk.out⟩⟩)
                    go_wp2_with fail
                    exact ⟨rfl, HF.out⟩
                  · have HN21 := Lib.hid (And.intro (HS.out.1.next ht.out hk.out) (HS.out.2.asked hj1 (1, (j : Int) + (i : Int), 0)))
                    have HMU21 := Lib.hid (show ans.length + 1 - askedN g w21 < ans.length + 1 - s.acc.length from by
                      rw [askedN_eq ht.out]
                      have h1 := hlt.out
                      rw [HS.out.2.an] at h1
                      show ans.length + 1 - (s.acc ++ [_]).length < _
                      rw [List.length_append, List.length_singleton]
                      omega)
                    clear ht hk hlt
                    generalize s.told = x at *
                    generalize s.asked (1, (j : Int) + (i : Int), 0) = s21 at *
                    rcases wait_cases (x != 0) (decide (x ≤ M + 1)) (x != M + 1) (decide (i < t)) with e1 | ⟨e1, e2⟩ | ⟨e1, e2, e3, e4⟩ | ⟨e1, e2, e3⟩ | ⟨e1, e2, e3, e4⟩
                    · go_wp2_with fail
                      try dsimp only [jumpsTo]
                      go_wp2_with fail
                      go_roundw
                      case rel =>
                        exact ⟨i + 1, s21, by omega, by go_num, HN21⟩
                      case measure => simp [intOf]; omega
                    · go_wp2_with fail
                      try dsimp only [jumpsTo]
                      go_wp2_with fail
                      go_roundw
                      case rel =>
                        exact ⟨i + 1, s21, by omega, by go_num, HN21⟩
                      case measure => simp [intOf]; omega
                    · have e5 : ¬ i < t := by simpa using e4
                      go_wp2_with fail
                      try dsimp only [jumpsTo]
                      go_wp2_with fail
                      go_roundw
                      case rel =>
                        exact ⟨i + 1, s21, by omega, by go_num, HN21⟩
                      case measure => simp [intOf]; omega
                    · go_wp2_with fail
                      refine wp_goto ?_
                      try dsimp only [Exit.then, jumpsTo]
                      exact hJ.out 1 _ _ (by unfold Only; kernel_rfl) ⟨.inr rfl, s21, HN21⟩ (by show ans.length + 1 - askedN g w21 < ans.length + 1 - askedN g w'; rw [askedN_eq HS.out.1.tape]; exact HMU21.out)
                    · have e5 : i < t := by simpa using e4
                      go_wp2_with fail
                      refine wp_goto ?_
                      try dsimp only [Exit.then, jumpsTo]
                      exact hJ.out 1 _ _ (by unfold Only; kernel_rfl) ⟨.inr rfl, s21, HN21⟩ (by show ans.length + 1 - askedN g w21 < ans.length + 1 - askedN g w'; rw [askedN_eq HS.out.1.tape]; exact HMU21.out)
          · obtain rfl : i = j := by omega
            clear hil
            go_wp2_with fail
            refine (note_any g B 3 s _ HS.out.1.tape (by have := HS.out.2.few; omega)).mono ?_
            rintro e w10 ⟨rfl, h10, k10⟩
            have HK10 := Lib.hid (HS.out.1.next h10 k10)
            have HF := Lib.hid (show BakR ans i t room (some 0, s.noted 3) from HR2.out _ ⟨hroom, by
              obtain ⟨more, hmore⟩ := HS.out.2.nts
              exact ⟨more ++ [(3, (s.acc.length : Int))], by show s.nts ++ [_] = _; rw [hmore, List.append_assoc]⟩, by have := HS.out.2.len; show i < s.acc.length; omega, by rw [← hMu]; exact HS.out.2.tik, fun e => ⟨rfl, (HS.out.2.one e).1, by show (s.nts ++ [(3, (s.acc.length : Int))]).length = 3; rw [List.length_append, (HS.out.2.one e).2]; rfl⟩⟩)
            clear h10 k10
            go_wp2_with fail
            go_ret
            exact ⟨(some 0, s.noted 3), HF.out, TPost.some rfl ⟨rfl, HK10.out.tape, HK10.out.tk⟩⟩

end Go.Proofs.Ytleebaebihbcdaa
