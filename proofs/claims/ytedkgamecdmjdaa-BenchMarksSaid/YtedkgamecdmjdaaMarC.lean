/-
  BenchMarks: its closure; where the bench stands after so many picks.
-/
import Derived.Test.YtedkgamecdmjdaaFit
set_option linter.unusedVariables false
set_option linter.unusedSimpArgs false
namespace Go.Proofs.Ytedkgamecdmjdaa
open Go.RowKit

theorem bcl_any (l : List Act3) (A : Option Addr) (c g B p : Nat) (k : Int) (s : TS) (W : World) (hp : W.cell? ⟨p, 0, none⟩ = some (.slice A l.length c))
    (h : Tape1 W g B s) (hl : l.length ≤ 100) (hn : s.nts = []) (hr : ActRow W A l) (hlow : ∀ b off, A = some ⟨b, off, none⟩ → 0 < l.length → b < g) (hk : ∀ a ∈ l, 0 ≤ a.1 ∧ a.1 ≤ 255) :
    Calls Try.prog 13 #[.pointer (some ⟨g, 0, none⟩), .int .i64 0, .int .i64 k, .pointer (some ⟨p, 0, none⟩)] W (TPost encI g B W (doP l 0 s)) := by
  have HD := Lib.hid (do_any l A c g B s W h hl hn hr hlow hk)
  obtain ⟨r, hr'⟩ : ∃ r, doP l 0 s = r := ⟨_, rfl⟩
  rw [hr'] at HD ⊢
  clear h hr hlow hk hr' hn hl
  go_enter Try.func13, Try.ntmps13
  go_wp2_with fail
  refine HD.out.mono ?_
  intro e w' hT
  obtain ⟨ro, s'⟩ := r
  cases ro with
  | none =>
    obtain ⟨rfl, hT1, hT2⟩ := TPost.of_none rfl hT
    go_wp2_with fail
    exact ⟨rfl, TPost.none rfl ⟨rfl, hT1, hT2⟩⟩
  | some v =>
    obtain ⟨rfl, hT1, hT2⟩ := TPost.of_some rfl hT
    have H1 := Lib.hid hT1
    have H2 := Lib.hid hT2
    clear hT hT1 hT2 hp HD
    go_wp2_with fail
    go_ret
    exact TPost.some rfl ⟨rfl, H1.out, H2.out⟩

/-- The strips of the law. -/
def bmL : List SD := [⟨4, 3, 9⟩]
/-- Where the thread is, a accesses into its operation: idle, begun, asked. -/
inductive Ph (cost many : Nat) (s : TB) (u : BS) : Nat → Prop
  | idle (n : Nat) (h1 : s.next = n) (h2 : n ≤ many) (h3 : s.st = 0) (h4 : s.ans = []) (h5 : s.ms = n * cost) (h6 : Free0 u) : Ph cost many s u (n * max (2 * cost) 1)
  | begun (n a : Nat) (h1 : s.next = n) (h2 : n < many) (h3 : s.st = 2) (h4 : s.ans.length = a) (h5 : s.ms = n * cost + a) (h6 : Busy0 u) (ha : a < cost) : Ph cost many s u (n * max (2 * cost) 1 + (2 * a + 1))
  | asked (n a : Nat) (h1 : s.next = n) (h2 : n < many) (h3 : s.st = 1) (h4 : s.ans.length = a) (h5 : s.ms = n * cost + a) (h6 : Free0 u) (ha : a < cost) (h0 : 0 < a) (hx : AccOk s.acc) : Ph cost many s u (n * max (2 * cost) 1 + 2 * a)
/-- The bench after q picks. -/
def BM (w0 w : World) (b : Nat) (f : Value) (cost many q : Nat) : Prop :=
  ∃ g h c1 s u N vm va vl X, Ben w0 w b g h c1 f bmL s u N vm va vl X ∧ Ph cost many s u q ∧ s.many = many ∧ N ≤ 9 * (s.ms + if s.st = 2 then 1 else 0) ∧ s.loc.length ≤ 32768 ∧ 0 ≤ s.nts ∧ s.nts ≤ 20
theorem shortL_le (l : List Int) : (shortL l).length ≤ l.length := by rw [shortL_length]; exact shortLen_le _ _
theorem bm_over {w0 w : World} {b : Nat} {f : Value} {cost many q : Nat} (H : BM w0 w b f cost many q) (hq : q < many * max (2 * cost) 1) :
    Calls Try.prog 6 #[.pointer (some ⟨b, 0, none⟩), .int .i64 0] w fun e w' => e = .returned (.bool false) ∧ Up w w' := by
  obtain ⟨g, h, c1, s, u, N, vm, va, vl, X, HB, HP, hm, _⟩ := H
  have := over_any b g c1 s.st s.next s.many w (HB.cb.cell 1 (by decide)) (HB.cg.cell 0 (by decide)) (HB.cg.cell 1 (by decide)) (HB.cg.cell 7 (by decide))
  have e : overB s.st s.next s.many = false := by
    unfold overB
    cases HP with
    | idle n h1 h2 h3 h4 h5 h6 =>
      have hlt : n < many := by
        apply Nat.lt_of_not_le
        intro hle
        have := Nat.mul_le_mul_right (max (2 * cost) 1) hle
        omega
      rw [h1, hm]
      simp
      omega
    | begun n a h1 h2 h3 => rw [h3]; rfl
    | asked n a h1 h2 h3 => rw [h3]; rfl
  rw [e] at this
  exact this
/-- What is true when all is done. -/
theorem bm_end {w0 w : World} {b : Nat} {f : Value} {cost many : Nat} (H : BM w0 w b f cost many (many * max (2 * cost) 1)) (hc : cost ≤ 100) :
    ∃ g h c1 s u N vm va vl X, Ben w0 w b g h c1 f bmL s u N vm va vl X ∧ overB s.st s.next s.many = true ∧ s.ms = many * cost := by
  obtain ⟨g, h, c1, s, u, N, vm, va, vl, X, HB, HP, hm, _⟩ := H
  refine ⟨g, h, c1, s, u, N, vm, va, vl, X, HB, ?_⟩
  have key : ∀ n a : Nat, n < many → a < max (2 * cost) 1 → n * max (2 * cost) 1 + a ≠ many * max (2 * cost) 1 := fun n a hn ha he => by
    have := Nat.mul_le_mul_right (max (2 * cost) 1) (show n + 1 ≤ many from hn)
    rw [Nat.add_mul] at this
    omega
  generalize hq : many * max (2 * cost) 1 = q at HP
  cases HP with
  | idle n h1 h2 h3 h4 h5 h6 =>
    have hn : n = many := by
      apply Nat.eq_of_mul_eq_mul_right (show 0 < max (2 * cost) 1 by omega)
      exact hq.symm
    subst hn
    exact ⟨by unfold overB; rw [h3, h1, hm]; simp, h5⟩
  | begun n a h1 h2 h3 h4 h5 h6 ha => exact absurd hq.symm (key n _ h2 (by omega))
  | asked n a h1 h2 h3 h4 h5 h6 ha h0 => exact absurd hq.symm (key n _ h2 (by omega))

end Go.Proofs.Ytedkgamecdmjdaa

/-
  BenchMarks: a pick.
-/
namespace Go.Proofs.Ytedkgamecdmjdaa
open Go.RowKit

theorem cnt_bm : cntK bmL bmL.length = 4 := by decide
theorem fit_bm : Fit bmL := ⟨by decide, by decide, by decide⟩
theorem ph_ms {cost many q : Nat} {s : TB} {u : BS} (H : Ph cost many s u q) : s.ms ≤ many * cost := by
  cases H with
  | idle n h1 h2 h3 h4 h5 h6 => rw [h5]; exact Nat.mul_le_mul_right _ h2
  | begun n a h1 h2 h3 h4 h5 h6 ha =>
    have := Nat.mul_le_mul_right cost (show n + 1 ≤ many from h2)
    rw [Nat.add_mul] at this
    omega
  | asked n a h1 h2 h3 h4 h5 h6 ha h0 =>
    have := Nat.mul_le_mul_right cost (show n + 1 ≤ many from h2)
    rw [Nat.add_mul] at this
    omega

theorem bm_pick {w0 w : World} {b F : Nat} {cap : Array Value} {l : List Act3} {many q cost : Nat} (hcost : costL (l.map fitA) = cost) (H : BM w0 w b (.func (.func F) #[] cap) cost many q) (hq : q < many * max (2 * cost) 1) (hl : l.length ≤ 20) (hmany : many ≤ 4)
    (hcf : ∀ (args : Array Value) (W : World), (callFunc F args).run Try.prog W = .ok (.enter F args) W)
    (hcl : ∀ (W : World) (g' B : Nat) (ans loc : List Int) (k : Int), Up w0 W → w0.heap.size ≤ g' → Tape1 W g' B ⟨ans, loc, [], []⟩ → Calls Try.prog F (#[.pointer (some ⟨g', 0, none⟩), .int .i64 0, .int .i64 k] ++ cap) W (TPost encI g' B W (doP (l.map fitA) 0 ⟨ans, loc, [], []⟩))) :
    Calls Try.prog 5 #[.pointer (some ⟨b, 0, none⟩), .int .i64 0] w fun e w' => (∃ v, e = .returned v) ∧ BM w0 w' b (.func (.func F) #[] cap) cost many (q + 1) := by
  obtain ⟨g, h, c1, s, u, N, vm, va, vl, X, HB, HP, hm, hN, hlo, hn0, hn1⟩ := H
  have hc20 : cost ≤ 20 := by
    have := costL_le (l.map fitA)
    rw [List.length_map] at this
    omega
  have hms : s.ms ≤ 80 := by
    have h1 := ph_ms HP
    have h2 := Nat.mul_le_mul hmany hc20
    omega
  have ran : ∀ ans : List Int, Ran cost ⟨ans, s.loc, [], []⟩ (doP (l.map fitA) 0 ⟨ans, s.loc, [], []⟩) := fun ans => by
    have := doP_ran l 0 ⟨ans, s.loc, [], []⟩ (Nat.zero_le _)
    rw [hcost] at this
    exact this
  have lens : ∀ ans : List Int, (doP (l.map fitA) 0 ⟨ans, s.loc, [], []⟩).2.acc.length ≤ 20 ∧ (doP (l.map fitA) 0 ⟨ans, s.loc, [], []⟩).2.nts.length ≤ 20 ∧ (shortL (doP (l.map fitA) 0 ⟨ans, s.loc, [], []⟩).2.loc).length ≤ 32768 := fun ans => by
    obtain ⟨h1, h2, h3⟩ := doP_len (l.map fitA) 0 ⟨ans, s.loc, [], []⟩
    have h4 := shortL_le (doP (l.map fitA) 0 ⟨ans, s.loc, [], []⟩).2.loc
    simp only [List.length_nil, List.length_map] at h1 h2 h3
    exact ⟨by omega, by omega, by omega⟩
  cases HP with
  | idle n h1 h2 h3 h4 h5 h6 =>
    have hlt : n < many := by
      apply Nat.lt_of_not_le
      intro hle
      have := Nat.mul_le_mul_right (max (2 * cost) 1) hle
      omega
    have hr := ran s.ans
    obtain ⟨e1, e2, e3⟩ := lens s.ans
    rw [h3, if_neg (by decide)] at hN
    obtain ⟨⟨ro, s'⟩, hd⟩ : ∃ r, doP (l.map fitA) 0 ⟨s.ans, s.loc, [], []⟩ = r := ⟨_, rfl⟩
    have hd0 := hd
    rw [hd] at hr e1 e2 e3
    dsimp only at e1 e2 e3
    have ok : ro = none → (u.begin (cntK bmL bmL.length) 6 (mkP bmL) 0 (s'.acc.getD (s'.acc.length - 1) (0, 0, 0)).1 (s'.acc.getD (s'.acc.length - 1) (0, 0, 0)).2.1 (s'.acc.getD (s'.acc.length - 1) (0, 0, 0)).2.2).1 = 0 := fun e => by
      subst e
      obtain ⟨_, _, p3⟩ := hr
      rw [cnt_bm]
      exact (h6.begin 4 6 bmL _ _ _ p3.1 p3.2.1 p3.2.2).1
    have hac : ro = none → 1 ≤ s'.acc.length := fun e => by
      subst e
      obtain ⟨p1, _, _⟩ := hr
      have p1 : s'.acc.length = s.ans.length + 1 := p1
      omega
    refine (pick_idle (p := doP (l.map fitA) 0) HB h3 (by rw [h1, hm]; omega) fit_bm (by omega) hcf (fun W g' B hU hg hT => hcl W g' B s.ans s.loc s.next hU hg hT) hlo (by rw [h4]; decide) hn0 (by omega) (ro, s') hd0 (by dsimp only; omega) (by dsimp only; omega) hac (by dsimp only; omega) ok).mono ?_
    intro e w' hP
    cases ro with
    | none =>
      obtain ⟨A, c, X', rfl, HB'⟩ := hP
      obtain ⟨p1, p2, p3⟩ := hr
      have p2 : s.ans.length < ([] : List (Int × Int × Int)).length + cost := p2
      rw [h4] at p2
      simp only [List.length_nil] at p2
      refine ⟨⟨_, rfl⟩, g, h, c1, _, _, _, vm, va, vl, X', HB', ?_, hm, ?_, hlo, by show (0 : Int) ≤ (s'.nts.length : Int); omega, by show (s'.nts.length : Int) ≤ 20; omega⟩
      · have := Ph.begun (cost := cost) (many := many) (s := { s with now := wrap64 (s.now + 1), nts := (s'.nts.length : Int), acc := s'.acc.getD (s'.acc.length - 1) (0, 0, 0), st := 2 }) (u := (u.begin (cntK bmL bmL.length) 6 (mkP bmL) 0 (s'.acc.getD (s'.acc.length - 1) (0, 0, 0)).1 (s'.acc.getD (s'.acc.length - 1) (0, 0, 0)).2.1 (s'.acc.getD (s'.acc.length - 1) (0, 0, 0)).2.2).2) n 0 h1 hlt rfl (by show s.ans.length = 0; rw [h4]; rfl) (by show s.ms = n * cost + 0; omega) (by rw [cnt_bm]; exact (h6.begin 4 6 bmL _ _ _ p3.1 p3.2.1 p3.2.2).2) (by omega)
        exact this
      · show N + 9 ≤ 9 * (s.ms + if (2 : Int) = 2 then 1 else 0)
        rw [if_pos rfl]
        omega
    | some v0 =>
      obtain ⟨v, vl', rfl, HB'⟩ := hP
      obtain ⟨p1, p2⟩ := hr
      have p2 : ([] : List (Int × Int × Int)).length + cost ≤ s.ans.length := p2
      rw [h4] at p2
      simp only [List.length_nil] at p2
      have hc0 : cost = 0 := by omega
      have hw : wrap64 (s.next + 1) = ((n + 1 : Nat) : Int) := by rw [h1, IntWalk.wrap64_in _ (by omega)]; omega
      refine ⟨⟨_, rfl⟩, g, h, c1, _, _, _, vm, _, vl', X, HB', ?_, hm, ?_, e3, by show (0 : Int) ≤ 0; omega, by show (0 : Int) ≤ 20; omega⟩
      · have hqq : n * max (2 * cost) 1 + 1 = (n + 1) * max (2 * cost) 1 := by rw [hc0]; simp
        rw [hqq]
        exact Ph.idle (n + 1) hw (by omega) rfl rfl (by show s.ms = (n + 1) * cost; rw [h5, hc0]; simp) h6
      · show N ≤ 9 * (s.ms + if (0 : Int) = 2 then 1 else 0)
        rw [if_neg (by decide)]
        omega
  | begun n a h1 h2 h3 h4 h5 h6 ha =>
    rw [h3, if_pos rfl] at hN
    have hr := ran (s.ans ++ [(u.endA (mkP bmL) 0 0).1])
    obtain ⟨e1, e2, e3⟩ := lens (s.ans ++ [(u.endA (mkP bmL) 0 0).1])
    have hla : (s.ans ++ [(u.endA (mkP bmL) 0 0).1]).length = a + 1 := by simp [h4]
    obtain ⟨⟨ro, s'⟩, hd⟩ : ∃ r, doP (l.map fitA) 0 ⟨s.ans ++ [(u.endA (mkP bmL) 0 0).1], s.loc, [], []⟩ = r := ⟨_, rfl⟩
    have hd0 := hd
    rw [hd] at hr e1 e2 e3
    dsimp only at e1 e2 e3
    have hac : ro = none → 1 ≤ s'.acc.length := fun e => by
      subst e
      obtain ⟨p1, _, _⟩ := hr
      have p1 : s'.acc.length = (s.ans ++ [(u.endA (mkP bmL) 0 0).1]).length + 1 := p1
      omega
    refine (pick_begun (p := doP (l.map fitA) 0) HB h3 (by omega) (mkP bmL) (by omega) (by omega) hcf (fun W g' B hU hg hT => hcl W g' B _ s.loc s.next hU hg hT) hlo hn0 (by omega) (ro, s') hd0 (by dsimp only; omega) (by dsimp only; omega) hac (by dsimp only; omega)).mono ?_
    rintro e w' ⟨w1, vm', va', X', hP⟩
    cases ro with
    | none =>
      obtain ⟨_, v, xs, rfl, _, _, HB'⟩ := hP
      obtain ⟨p1, p2, p3⟩ := hr
      have p2 : (s.ans ++ [(u.endA (mkP bmL) 0 0).1]).length < ([] : List (Int × Int × Int)).length + cost := p2
      rw [hla] at p2
      simp only [List.length_nil] at p2
      refine ⟨⟨_, rfl⟩, g, h, c1, _, _, _, vm', va', vl, X', HB', ?_, hm, ?_, hlo, by show (0 : Int) ≤ (s'.nts.length : Int); omega, by show (s'.nts.length : Int) ≤ 20; omega⟩
      · have hqq : n * max (2 * cost) 1 + (2 * a + 1) + 1 = n * max (2 * cost) 1 + 2 * (a + 1) := by omega
        rw [hqq]
        exact Ph.asked n (a + 1) h1 h2 rfl hla (by show s.ms + 1 = n * cost + (a + 1); omega) (h6.endA bmL) (by omega) (by omega) p3
      · show N ≤ 9 * (s.ms + 1 + if (1 : Int) = 2 then 1 else 0)
        rw [if_neg (by decide)]
        omega
    | some v0 =>
      obtain ⟨_, v, xs, rfl, _, _, vl', HB'⟩ := hP
      obtain ⟨p1, p2⟩ := hr
      have p2 : ([] : List (Int × Int × Int)).length + cost ≤ (s.ans ++ [(u.endA (mkP bmL) 0 0).1]).length := p2
      rw [hla] at p2
      simp only [List.length_nil] at p2
      have hw : wrap64 (s.next + 1) = ((n + 1 : Nat) : Int) := by rw [h1, IntWalk.wrap64_in _ (by omega)]; omega
      refine ⟨⟨_, rfl⟩, g, h, c1, _, _, _, vm', _, vl', X', HB', ?_, hm, ?_, e3, by show (0 : Int) ≤ 0; omega, by show (0 : Int) ≤ 20; omega⟩
      · have hqq : n * max (2 * cost) 1 + (2 * a + 1) + 1 = (n + 1) * max (2 * cost) 1 := by
          rw [Nat.add_mul]
          omega
        rw [hqq]
        exact Ph.idle (n + 1) hw (by omega) rfl rfl (by show s.ms + 1 = (n + 1) * cost; rw [Nat.add_mul]; omega) (h6.endA bmL)
      · show N ≤ 9 * (s.ms + 1 + if (0 : Int) = 2 then 1 else 0)
        rw [if_neg (by decide)]
        omega
  | asked n a h1 h2 h3 h4 h5 h6 ha h0 hx =>
    rw [h3, if_neg (by decide)] at hN
    have ok := h6.begin 4 6 bmL s.acc.1 s.acc.2.1 s.acc.2.2 hx.1 hx.2.1 hx.2.2
    rw [← cnt_bm] at ok
    refine (pick_asked HB h3 fit_bm (by omega) ok.1).mono ?_
    rintro e w' ⟨rfl, X', HB'⟩
    refine ⟨⟨_, rfl⟩, g, h, c1, _, _, _, vm, va, vl, X', HB', ?_, hm, ?_, hlo, hn0, hn1⟩
    · exact Ph.begun n a h1 h2 rfl h4 h5 ok.2 ha
    · show N + 9 ≤ 9 * (s.ms + if (2 : Int) = 2 then 1 else 0)
      rw [if_pos rfl]
      omega

end Go.Proofs.Ytedkgamecdmjdaa

/-
  The walk of BenchMarks.
-/
namespace Go.Proofs.Ytedkgamecdmjdaa
open Go.RowKit

theorem cost_app (l m : List Act3) : costL (l ++ m) = costL l + costL m := by
  induction l with
  | nil => simp [costL]
  | cons a l ih => simp only [List.cons_append, costL, ih]; omega
theorem cost_take {l : List Act3} {j : Nat} (h : j < l.length) : costL ((l.map fitA).take (j + 1)) = costL ((l.map fitA).take j) + costA (l.getD j (0, 0, 0)) := by
  rw [take_fit h, cost_app]
  rfl

theorem BM.up {w0 w w' : World} {b : Nat} {f : Value} {cost many q : Nat} (H : BM w0 w b f cost many q) (u : Up w w') : BM w0 w' b f cost many q := by
  obtain ⟨g, h, c1, s, u', N, vm, va, vl, X, HB, h2⟩ := H
  exact ⟨g, h, c1, s, u', N, vm, va, vl, X, HB.grow u, h2⟩

theorem bm_rel {B : Nat → Prop} {q T : Nat} (h : q < T) (hw : wrap64 ((q : Int) + 1) = (q : Int) + 1) (H : B (q + 1)) : ∃ q1 : Nat, q1 ≤ T ∧ Value.int .i64 (wrap64 ((q : Int) + 1)) = Value.int .i64 (q1 : Int) ∧ B q1 :=
  ⟨q + 1, h, by rw [hw]; rfl, H⟩
theorem bm_80 {k : Nat} (h : k ≤ 80) : k ≤ 1000000 := by omega
theorem bm_measure {q T : Nat} (h : q < T) (hw : wrap64 ((q : Int) + 1) = (q : Int) + 1) : T - (intOf (Value.int .i64 (wrap64 ((q : Int) + 1)))).toNat < T - (intOf (Value.int .i64 (q : Int))).toNat := by
  rw [hw]
  show T - ((q : Int) + 1).toNat < T - ((q : Int)).toNat
  omega

set_option maxRecDepth 10000 in
set_option maxHeartbeats 4000000 in
theorem benchMarks_any (l : List Act3) (A : Option Addr) (c : Nat) (x : Int) (w : World) (hr : ActRow w A l) (hk : ∀ a ∈ l, 0 ≤ a.1 ∧ a.1 ≤ 255) (hx : 0 ≤ x ∧ x ≤ 255) (hm : l.length ≤ 9223372036854775807) :
    Calls Try.prog 4 #[.slice A l.length c, .int .u8 x] w fun e w' => e = .returned (.bool true) ∧ Up w w' := by
  by_cases hs : l.length ≤ 20
  · have HR := Lib.hid hr
    have HK := Lib.hid hk
    have HS := Lib.hid hs
    have il : (l.length : Int) ≤ 20 := by omega
    have hmf : ∀ (fn : Fn) (first cap : Array Value) (w : World), (Instr.makeFunc fn first cap).run Try.prog w = .ok (.func fn first cap) w := fun _ _ _ _ => rfl
    have hu1 : Up w (w.alloc (.cells #[.slice A l.length c] 31)) := (Up.refl w).alloc _
    have hu2 : Up (w.alloc (.cells #[.slice A l.length c] 31)) ((w.alloc (.cells #[.slice A l.length c] 31)).alloc (.cells #[.slice (some ⟨w.heap.size, 0, none⟩) 1 1] 32)) := (Up.refl _).alloc _
    have hb1 := (hu2.block w.heap.size (by simp)).trans (heap_alloc_new w (.cells #[.slice A l.length c] 31))
    have hb2 := heap_alloc_new (w.alloc (.cells #[.slice A l.length c] 31)) (.cells #[.slice (some ⟨w.heap.size, 0, none⟩) 1 1] 32)
    rw [World.size_alloc] at hb2
    obtain ⟨W2, hW2⟩ : ∃ x, (w.alloc (.cells #[.slice A l.length c] 31)).alloc (.cells #[.slice (some ⟨w.heap.size, 0, none⟩) 1 1] 32) = x := ⟨_, rfl⟩
    rw [hW2] at hb1 hb2 hu2
    have HU2 := Lib.hid (hu1.trans hu2)
    have HFI := Lib.hid (fit_any l A c (w.heap.size + 1) w.heap.size 1 1 W2 (by omega) (hr.up HU2.out) (cell_of_row _ _ 0 _ _ _ hb2) (cell_of_row _ _ 0 _ _ _ hb1) hk)
    clear hr hk hs hu1 hu2 hb1 hb2 hm
    go_enter Try.func4, Try.ntmps4
    go_wp2_with fail
    clear hW2
    refine HFI.out.mono ?_
    rintro e w3 ⟨v, rfl, hu3, o', co, m', cm, A', c', rfl, ho', hm', hrow', hnil'⟩
    have HU3 := Lib.hid (HU2.out.trans hu3)
    have HRW := Lib.hid hrow'
    clear HFI hu3 hrow' hnil'
    go_wp2_with fail
    clear ho' hm'
    have hbp := heap_alloc_new w3 (.cells #[.slice A' l.length c'] 31)
    have hup : Up w3 (w3.alloc (.cells #[.slice A' l.length c'] 31)) := (Up.refl w3).alloc _
    obtain ⟨W4, hW4⟩ : ∃ x, w3.alloc (.cells #[.slice A' l.length c'] 31) = x := ⟨_, rfl⟩
    obtain ⟨p, hp⟩ : ∃ p, w3.heap.size = p := ⟨_, rfl⟩
    rw [hW4] at hbp hup ⊢
    rw [hp] at hbp ⊢
    have HBP := Lib.hid hbp
    have HU4 := Lib.hid (HU3.out.trans hup)
    have HRP := Lib.hid (HRW.out.up hup)
    obtain ⟨n, hn⟩ : ∃ n, l.length = n := ⟨_, rfl⟩
    have HN := Lib.hid hn
    have hn20 : n ≤ 20 := by omega
    rw [hn]
    have hp0 : W4.cell? ⟨p, 0, none⟩ = some (.slice A' n c') := by rw [← hn]; exact cell_of_row _ _ 0 _ _ _ hbp
    clear hW4 hp hbp hup hn HRW il
    go_loopw [6, 7] (fun cv iv wr => ∃ j : Nat, j ≤ n ∧ iv = .int .i64 j ∧ cv = .int .i64 (costL ((l.map fitA).take j) : Nat) ∧ wr = W4) (fun _ t _ => n - (intOf t).toNat)
    case atStart => exact ⟨0, by omega, rfl, rfl, rfl⟩
    case round =>
      obtain ⟨j, hj, rfl, rfl, rfl⟩ := hrel
      by_cases hlt : j < n
      · obtain ⟨ab, aoff, rfl, h1, h2, h3⟩ := HRP.out j (by rw [List.length_map, HN.out]; exact hlt)
        have HCT := Lib.hid (cost_take (l := l) (j := j) (by rw [HN.out]; exact hlt))
        have hcl := costL_le ((l.map fitA).take j)
        rw [List.length_take] at hcl
        have hgd : ((l.map fitA).getD j (0, 0, 0)).1 = (l.getD j (0, 0, 0)).1 := by
          rw [List.getD_eq_getElem?_getD, List.getD_eq_getElem?_getD, List.getElem?_map, List.getElem?_eq_getElem (by rw [HN.out]; exact hlt)]
          rfl
        rw [hgd] at h1
        obtain ⟨hq0, hq1⟩ := HK.out (l.getD j (0, 0, 0)) (by rw [List.getD_eq_getElem?_getD, List.getElem?_eq_getElem (by rw [HN.out]; exact hlt)]; exact List.getElem_mem _)
        unfold costA at HCT
        generalize (l.getD j (0, 0, 0)).1 = q at *
        have hqm : q.tmod 6 = q % 6 := Int.tmod_eq_emod_of_nonneg hq0
        obtain ⟨ct, hct⟩ : ∃ ct, costL ((l.map fitA).take j) = ct := ⟨_, rfl⟩
        rw [hct] at HCT hcl ⊢
        have hw1 : wrap64 ((ct : Int) + 1) = ((ct + 1 : Nat) : Int) := by rw [IntWalk.wrap64_in _ (by omega)]; omega
        have HJ := Lib.hid (show j < n ∧ n ≤ 20 from ⟨hlt, hn20⟩)
        clear h2 h3 hgd hct hcl
        have h6 : q % 6 = 0 ∨ q % 6 = 1 ∨ q % 6 = 2 ∨ q % 6 = 3 ∨ q % 6 = 4 ∨ q % 6 = 5 := by omega
        rcases h6 with h6 | h6 | h6 | h6 | h6 | h6 <;>
        · rw [h6] at hqm HCT
          go_wp2_with fail
          go_roundw
          case rel => exact ⟨j + 1, by have := HJ.out; omega, by go_num, by rw [HCT.out]; simp; try (rw [hw1]; omega), by trivial⟩
          case measure => simp [intOf]; omega
      · obtain rfl : j = n := by omega
        have htk : (l.map fitA).take j = l.map fitA := List.take_of_length_le (by rw [List.length_map, HN.out]; exact Nat.le_refl _)
        obtain ⟨cost, hcost⟩ : ∃ cost, costL (l.map fitA) = cost := ⟨_, rfl⟩
        rw [htk, hcost]
        have hc20 : cost ≤ 20 := by
          have := costL_le (l.map fitA)
          rw [List.length_map, HN.out] at this
          omega
        obtain ⟨mn, hmn⟩ : ∃ mn : Nat, x.tmod 5 = mn := ⟨(x % 5).toNat, by rw [Int.tmod_eq_emod_of_nonneg hx.1]; omega⟩
        have hm4 : mn ≤ 4 := by rw [Int.tmod_eq_emod_of_nonneg hx.1] at hmn; omega
        have hwm : wrap64 (mn : Int) = mn := IntWalk.wrap64_in _ (by omega)
        clear htk hlt hj
        go_wp2_with fail
        have hus : Up wr (wr.alloc (.cells #[.int .i64 4, .int .i64 3, .int .i64 9] 41)) := (Up.refl wr).alloc _
        have hum : Up (wr.alloc (.cells #[.int .i64 4, .int .i64 3, .int .i64 9] 41)) ((wr.alloc (.cells #[.int .i64 4, .int .i64 3, .int .i64 9] 41)).alloc (.cells #[.int .i64 mn] 3)) := (Up.refl _).alloc _
        have hrs := strip_row wr bmL [.int .i64 4, .int .i64 3, .int .i64 9] 41 (fun k hk => by
          match k, hk with
          | 0, _ => exact ⟨rfl, rfl, rfl⟩)
        have hmc : ((wr.alloc (.cells #[.int .i64 4, .int .i64 3, .int .i64 9] 41)).alloc (.cells #[.int .i64 mn] 3)).cell? ⟨wr.heap.size + 1, 0, none⟩ = some (.int .i64 mn) := by
          have := cell_of_row _ _ 0 _ _ _ (heap_alloc_new (wr.alloc (.cells #[.int .i64 4, .int .i64 3, .int .i64 9] 41)) (.cells #[.int .i64 mn] 3))
          rw [World.size_alloc] at this
          exact this
        have hrs2 := hrs.up hum
        obtain ⟨W6, hW6⟩ : ∃ x, (wr.alloc (.cells #[.int .i64 4, .int .i64 3, .int .i64 9] 41)).alloc (.cells #[.int .i64 mn] 3) = x := ⟨_, rfl⟩
        have HU6 := Lib.hid (show Up wr W6 from hW6 ▸ hus.trans hum)
        rw [hW6] at hmc hrs2
        have HNW := Lib.hid (newB_ok bmL (some ⟨wr.heap.size, 0, none⟩) 1 (wr.heap.size + 1) 1 mn 13 #[.pointer (some ⟨p, 0, none⟩)] W6 (by decide) hrs2 (by decide) hmc (by omega) (by omega))
        clear hus hum hrs hmc hrs2 hp0
        go_wp2_with fail
        rw [hW6]
        clear hW6
        refine HNW.out.mono ?_
        rintro e w7 ⟨b, g, h, c1, X, rfl, hb7⟩
        have HB7 := Lib.hid (show BM W6 w7 b (.func (.func 13) #[] #[.pointer (some ⟨p, 0, none⟩)]) cost mn 0 from
          ⟨g, h, c1, _, _, _, _, _, _, X, hb7, by have := Ph.idle (cost := cost) (many := mn) (s := tb0 mn) (u := bs0) 0 rfl (by omega) rfl rfl (by simp [tb0]) free_bs0; simpa using this, rfl, by simp, by simp [tb0], by simp [tb0], by simp [tb0]⟩)
        have HCL := Lib.hid (fun (W : World) (g' B : Nat) (ans loc : List Int) (k : Int) (hU : Up W6 W) (hg : W6.heap.size ≤ g') (hT : Tape1 W g' B ⟨ans, loc, [], []⟩) =>
          bcl_any (l.map fitA) A' c' g' B p k ⟨ans, loc, [], []⟩ W (by
            have h1 := cell_of_row _ _ 0 _ _ _ HBP.out
            rw [List.length_map]
            exact ((HU6.out.trans hU).cell (cell_lt h1)).trans h1) hT (by rw [List.length_map]; have := HS.out; omega) rfl (HRP.out.up (HU6.out.trans hU)) (fun b' off e h0 => by
            obtain ⟨b2, off2, e2, h1, _⟩ := HRP.out 0 h0
            rw [e] at e2
            simp only [Option.some.injEq, Addr.mk.injEq] at e2
            have := cell_lt h1
            have := HU6.out.size
            omega) (fun a ha => by
            obtain ⟨a2, h1, rfl⟩ := List.mem_map.1 ha
            exact HK.out a2 h1))
        clear hb7 HNW
        obtain ⟨M, hM⟩ : ∃ M, max (2 * cost) 1 = M := ⟨_, rfl⟩
        have hM40 : M ≤ 40 ∧ 1 ≤ M := by omega
        have hwc : wrap64 (2 * (cost : Int)) = 2 * (cost : Int) := IntWalk.wrap64_in _ (by omega)
        have hmx : max (2 * (cost : Int)) 1 = (M : Int) := by omega
        have hTT : mn * M ≤ 160 := Nat.mul_le_mul hm4 hM40.1
        obtain ⟨T, hT⟩ : ∃ T, mn * M = T := ⟨_, rfl⟩
        have hwt : wrap64 ((mn : Int) * (M : Int)) = (T : Int) := by
          have e : (mn : Int) * (M : Int) = ((mn * M : Nat) : Int) := by simp
          rw [e, hT, IntWalk.wrap64_in _ (by omega)]
        rw [hT] at hTT
        have hcf : ∀ (args : Array Value) (W : World), (callFunc 13 args).run Try.prog W = .ok (.enter 13 args) W := fun args W => enters Try.func13 (by kernel_rfl) rfl args W
        have HPK := Lib.hid (fun (W : World) (q : Nat) (H : BM W6 W b (.func (.func 13) #[] #[.pointer (some ⟨p, 0, none⟩)]) cost mn q) (hq : q < T) => bm_pick hcost H (by rw [hM, hT]; exact hq) HS.out hm4 hcf HCL.out)
        have HOV := Lib.hid (fun (W : World) (q : Nat) (H : BM W6 W b (.func (.func 13) #[] #[.pointer (some ⟨p, 0, none⟩)]) cost mn q) (hq : q < T) => bm_over H (by rw [hM, hT]; exact hq))
        have HEN := Lib.hid (fun (W : World) (H : BM W6 W b (.func (.func 13) #[] #[.pointer (some ⟨p, 0, none⟩)]) cost mn T) => bm_end (by rw [hM, hT]; exact H) (show cost ≤ 100 by omega))
        have hmc80 : mn * cost ≤ 80 := Nat.mul_le_mul hm4 hc20
        have hwk : wrap64 ((mn : Int) * (cost : Int)) = ((mn * cost : Nat) : Int) := by
          have e : (mn : Int) * (cost : Int) = ((mn * cost : Nat) : Int) := by simp
          rw [e, IntWalk.wrap64_in _ (by omega)]
        obtain ⟨KK, hKK⟩ : ∃ KK, mn * cost = KK := ⟨_, rfl⟩
        rw [hKK] at hwk hmc80
        have HKK := Lib.hid hKK
        have HK80 := Lib.hid (bm_80 hmc80)
        have HTT := Lib.hid hTT
        clear HCL hcf hM40 hTT hT hM hcost hmn hKK
        go_wp2_with fail
        go_loopw [12] (fun iv wx => ∃ q : Nat, q ≤ T ∧ iv = .int .i64 q ∧ Hid (BM W6 wx b (.func (.func 13) #[] #[.pointer (some ⟨p, 0, none⟩)]) cost mn q)) (fun t _ => T - (intOf t).toNat)
        case atStart => exact ⟨0, by omega, rfl, HB7⟩
        case round =>
          obtain ⟨q, hq, rfl, HQ⟩ := hrel
          by_cases hlt : q < T
          · have HO := Lib.hid (HOV.out _ q HQ.out hlt)
            have HLT := Lib.hid hlt
            have hw1 : wrap64 ((q : Int) + 1) = (q : Int) + 1 := IntWalk.wrap64_in _ (by have := HTT.out; have := HLT.out; omega)
            clear hmf hwm hwk hmc80 hc20 hm4
            go_wp2_with fail
            refine HO.out.mono ?_
            rintro e w8 ⟨rfl, hu8⟩
            have HP := Lib.hid (HPK.out w8 q (HQ.out.up hu8) HLT.out)
            clear hu8 HO HQ
            go_wp2_with fail
            refine HP.out.mono ?_
            rintro e w9 ⟨⟨v, rfl⟩, h9⟩
            have H9 := Lib.hid h9
            clear h9 HP
            go_wp2_with fail
            go_roundw
            case rel => exact bm_rel (B := fun q1 => Hid (BM W6 w9 b (.func (.func 13) #[] #[.pointer (some ⟨p, 0, none⟩)]) cost mn q1)) HLT.out hw1 H9
            case measure => exact bm_measure HLT.out hw1
          · obtain rfl : q = T := by omega
            obtain ⟨g2, h2, c2, s, u, N, vm, va, vl, X2, hbx, hov, hms⟩ := HEN.out _ HQ.out
            have HBX := Lib.hid hbx
            have HOV2 := Lib.hid hov
            have HMS := Lib.hid (show s.ms = KK by rw [hms, HKK.out])
            have ho := over_any b g2 c2 s.st s.next s.many _ (hbx.cb.cell 1 (by decide)) (hbx.cg.cell 0 (by decide)) (hbx.cg.cell 1 (by decide)) (hbx.cg.cell 7 (by decide))
            rw [hov] at ho
            have HO := Lib.hid ho
            clear ho hbx hov hms hlt hq HQ HEN HPK HOV
            go_wp2_with fail
            refine HO.out.mono ?_
            rintro e w8 ⟨rfl, hu8⟩
            have HB8 := Lib.hid (HBX.out.grow hu8)
            have hmk := marks_any HB8.out (by rw [HMS.out]; exact HK80.out)
            rw [HMS.out] at hmk
            have HMK := Lib.hid hmk
            clear hu8 HO hmk
            go_wp2_with fail
            refine HMK.out.mono ?_
            rintro e w9 ⟨⟨Am, dm, rfl⟩, hu9⟩
            have HB9 := Lib.hid (HB8.out.grow hu9)
            clear hu9 HMK
            go_wp2_with fail
            refine (pick_over HB9.out HOV2.out).mono ?_
            rintro e w10 ⟨rfl, hu10⟩
            have HU10 := Lib.hid (HU4.out.trans (HU6.out.trans hu10))
            clear hu10
            go_wp2_with fail
            refine (alive50_any w10).mono ?_
            rintro e w11 ⟨rfl, hu11⟩
            have HU11 := Lib.hid (HU10.out.trans hu11)
            clear hu11
            go_wp2_with fail
            go_ret
            exact ⟨rfl, HU11.out⟩
  · have hgt : (20 : Int) < l.length := by omega
    clear hr hk
    go_enter Try.func4, Try.ntmps4
    go_wp2_with fail
    refine (alive50_any w).mono ?_
    rintro e w' ⟨rfl, hu⟩
    have HU := Lib.hid hu
    clear hu
    go_wp2_with fail
    go_ret
    exact ⟨rfl, HU.out⟩

end Go.Proofs.Ytedkgamecdmjdaa
