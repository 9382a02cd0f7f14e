/-
  The walk of TapeGrows.
-/
import Derived.Test.YtpandnodeldbjaaGrowP
set_option linter.unusedVariables false
set_option linter.unusedSimpArgs false
namespace Go.Proofs.Ytpandnodeldbjaa
open Go.RowKit

theorem clG_any (l : List Act3) (A : Option Addr) (c g B p : Nat) (s : TS) (W : World) (hp : W.heap[p]? = some (.cells #[.slice A l.length c] 22 (0, 0)))
    (h : Tape1 W g B s) (hl : l.length ≤ 100) (hn : s.nts = []) (hr : ActRow W A l) (hlow : ∀ b off, A = some ⟨b, off, none⟩ → 0 < l.length → b < g) (hk : ∀ a ∈ l, 0 ≤ a.1 ∧ a.1 ≤ 255) :
    Calls Try.prog 26 #[.pointer (some ⟨g, 0, none⟩), .pointer (some ⟨p, 0, none⟩)] W (TPost encI g B W (doP l 0 s)) := by
  have HD := Lib.hid (do_any l A c g B s W h hl hn hr hlow hk)
  obtain ⟨r, hr'⟩ : ∃ r, doP l 0 s = r := ⟨_, rfl⟩
  rw [hr'] at HD ⊢
  have hq0 := cell_of_row W p 0 _ _ _ hp
  simp only [List.getElem?_toArray, List.getElem?_cons_zero] at hq0
  clear h hr hlow hk hr' hp hn hl
  go_enter Try.func26, Try.ntmps26
  go_wp2_with fail
  refine HD.out.mono ?_
  intro e w' hT
  obtain ⟨ro, s'⟩ := r
  cases ro with
  | none =>
    obtain ⟨rfl, hT1, hT2⟩ := TPost.of_none rfl hT
    go_wp2_with fail
    exact ⟨rfl, TPost.none rfl ⟨rfl, hT1, hT2⟩⟩
  | some v =>
    obtain ⟨rfl, hT1, hT2⟩ := TPost.of_some rfl hT
    have H1 := Lib.hid hT1
    have H2 := Lib.hid hT2
    clear hT hT1 hT2 hq0 HD
    go_wp2_with fail
    go_ret
    exact TPost.some rfl ⟨rfl, H1.out, H2.out⟩

/-- A tape of acts, played: the program's side. -/
theorem playG_acts (l : List Act3) (loc ans : List Int) (A A0 A1 : Option Addr) (c c0 c1 p : Nat) (w : World) (hp : w.heap[p]? = some (.cells #[.slice A l.length c] 22 (0, 0)))
    (hl : l.length ≤ 100) (hr : ActRow w A l) (hk : ∀ a ∈ l, 0 ≤ a.1 ∧ a.1 ≤ 255) (hA0 : A0 = none → c0 = 0) (hl0 : loc.length ≤ 3000) (hl1 : ans.length ≤ 3000)
    (hr0 : Row w A0 loc.length (IVal loc)) (hr1 : Row w A1 ans.length (IVal ans)) (hc0 : loc.length ≤ c0) :
    Calls Try.prog 15 #[.func (.func 26) #[] #[.pointer (some ⟨p, 0, none⟩)], .slice A0 loc.length c0, .slice A1 ans.length c1] w fun e w' =>
      ∃ ov, e = .returned (.tuple #[.int .i64 ((doP l 0 ⟨ans, loc, [], []⟩).1.getD 0), ov]) ∧ OutIs w' ov (doP l 0 ⟨ans, loc, [], []⟩).1.isSome (doP l 0 ⟨ans, loc, [], []⟩).2 ∧ Up w w' :=
  playI 26 #[.pointer (some ⟨p, 0, none⟩)] (doP l 0) loc ans A0 A1 c0 c1 w hA0 hl0 hl1 hr0 hr1 hc0 (fun args W => enters Try.func26 (by kernel_rfl) rfl args W)
    (fun W g B hU hg h => clG_any l A c g B p _ W ((hU.block p (Array.getElem?_eq_some_iff.1 hp).1).trans hp) h hl rfl (hr.up hU) (fun b off e h0 => by
      obtain ⟨b', off', e', h1, _⟩ := hr 0 h0
      rw [e] at e'
      simp only [Option.some.injEq, Addr.mk.injEq] at e'
      have := cell_lt h1
      omega) hk)


theorem int_far {w : World} {N b j : Nat} {t : TypeId} {fr : Nat × Nat} {k : IntKind} {x : Int} (hb : w.heap[N]? = some (.cells #[.bool false, .slice none 0 0, .slice none 0 0, .slice none 0 0] t fr)) (h : w.cell? ⟨b, j, none⟩ = some (.int k x)) : b ≠ N := by
  rintro rfl
  rw [cell_of_row w b j _ _ _ hb] at h
  match j, h with
  | 0, h => simp at h
  | 1, h => simp at h
  | 2, h => simp at h
  | 3, h => simp at h
  | j + 4, h => simp at h
theorem rows_far {w W : World} {N : Nat} {t : TypeId} {fr : Nat × Nat} {X M L : Option Addr} {s : TS} {cL : Nat} (hb : w.heap[N]? = some (.cells #[.bool false, .slice none 0 0, .slice none 0 0, .slice none 0 0] t fr))
    (hk : ∀ k, k ≠ N → W.heap[k]? = w.heap[k]?) (h : AccRow w X s.acc ∧ NoteRow w M s.nts ∧ Row w L (shortL s.loc).length (IVal (shortL s.loc)) ∧ (L = none → cL = 0)) :
    AccRow W X s.acc ∧ NoteRow W M s.nts ∧ Row W L (shortL s.loc).length (IVal (shortL s.loc)) ∧ (L = none → cL = 0) := by
  obtain ⟨h1, h2, h3, h4⟩ := h
  refine ⟨fun k hlt => ?_, fun k hlt => ?_, fun k hlt => ?_, h4⟩
  · obtain ⟨b, off, e, a1, a2, a3⟩ := h1 k hlt
    have hc := hk b (int_far hb a1)
    exact ⟨b, off, e, (tcell hc).trans a1, (tcell hc).trans a2, (tcell hc).trans a3⟩
  · obtain ⟨b, off, e, a1, a2⟩ := h2 k hlt
    have hc := hk b (int_far hb a1)
    exact ⟨b, off, e, (tcell hc).trans a1, (tcell hc).trans a2⟩
  · obtain ⟨b, off, e, a1⟩ := h3 k hlt
    have hc := hk b (int_far hb a1)
    exact ⟨b, off, e, (tcell hc).trans a1⟩

set_option maxRecDepth 10000 in
theorem growPlay_any (l : List Act3) (loc ans : List Int) (A A0 A1 : Option Addr) (c c0 c1 p q : Nat) (w : World) (hp : w.heap[p]? = some (.cells #[.slice A l.length c] 22 (0, 0))) (hq : w.heap[q]? = some (.cells #[.slice A0 loc.length c0] 23 (0, 0)))
    (hl : l.length ≤ 100) (hr : ActRow w A l) (hk : ∀ a ∈ l, 0 ≤ a.1 ∧ a.1 ≤ 255) (hA0 : A0 = none → c0 = 0) (hl0 : loc.length ≤ 3000) (hl1 : ans.length ≤ 3000)
    (hr0 : Row w A0 loc.length (IVal loc)) (hr1 : Row w A1 ans.length (IVal ans)) (hc0 : loc.length ≤ c0) :
    Calls Try.prog 25 #[.slice A1 ans.length c1, .pointer (some ⟨p, 0, none⟩), .pointer (some ⟨q, 0, none⟩)] w fun e w' =>
      ∃ ov, e = .returned (.tuple #[.int .i64 ((doP l 0 ⟨ans, loc, [], []⟩).1.getD 0), ov]) ∧ OutIs w' ov (doP l 0 ⟨ans, loc, [], []⟩).1.isSome (doP l 0 ⟨ans, loc, [], []⟩).2 ∧ Up w w' := by
  have hmf : ∀ (fn : Fn) (first cap : Array Value) (w : World), (Instr.makeFunc fn first cap).run Try.prog w = .ok (.func fn first cap) w := fun _ _ _ _ => rfl
  have hU0 : Up w (w.alloc (.cells #[.bool false, .slice none 0 0, .slice none 0 0, .slice none 0 0] 29)) := (Up.refl w).alloc _
  have HP := Lib.hid (playG_acts l loc ans A A0 A1 c c0 c1 p _ ((hU0.block _ (Array.getElem?_eq_some_iff.1 hp).1).trans hp) hl (hr.up hU0) hk hA0 hl0 hl1 (hr0.up hU0) (hr1.up hU0) hc0)
  have hz := cell_of_row w q 0 _ _ _ hq
  simp only [List.getElem?_toArray, List.getElem?_cons_zero] at hz
  have hz1 := (hU0.cell (p := ⟨q, 0, none⟩) (cell_lt hz)).trans hz
  have hb := heap_alloc_new w (.cells #[.bool false, .slice none 0 0, .slice none 0 0, .slice none 0 0] 29)
  have HB := Lib.hid hb
  have HU := Lib.hid hU0
  obtain ⟨P, hP⟩ : ∃ x, doP l 0 ⟨ans, loc, [], []⟩ = x := ⟨_, rfl⟩
  rw [hP] at HP ⊢
  obtain ⟨n0, hn0⟩ : ∃ n, loc.length = n := ⟨_, rfl⟩
  obtain ⟨n1, hn1⟩ : ∃ n, ans.length = n := ⟨_, rfl⟩
  rw [hn0] at HP hz1
  rw [hn1] at HP ⊢
  clear hp hq hl hr hk hA0 hl0 hl1 hr0 hr1 hc0 hz hP hb hU0 hn0 hn1
  go_enter Try.func25, Try.ntmps25
  go_wp2_with fail
  refine HP.out.mono ?_
  rintro e w1 ⟨ov, rfl, hO, hU1⟩
  have hb1 := (hU1.block _ (Array.getElem?_eq_some_iff.1 HB.out).1).trans HB.out
  obtain ⟨X, cX, N, cN, L, cL, rfl, hx⟩ := hO
  have HPS := Lib.hid (put4_same (.bool P.1.isSome) (.slice X P.2.acc.length cX) (.slice N P.2.nts.length cN) (.slice L (shortL P.2.loc).length cL) hb1)
  have HPU := Lib.hid (show Up w (put4 w1 w.heap.size (.bool P.1.isSome) (.slice X P.2.acc.length cX) (.slice N P.2.nts.length cN) (.slice L (shortL P.2.loc).length cL)) from (HU.out.trans hU1).trans' (put4_below w1 w.heap.size w.heap.size _ _ _ _ (Nat.le_refl _)))
  have HOU := Lib.hid (show ∀ k, k ≠ w.heap.size → (put4 w1 w.heap.size (.bool P.1.isSome) (.slice X P.2.acc.length cX) (.slice N P.2.nts.length cN) (.slice L (shortL P.2.loc).length cL)).heap[k]? = w1.heap[k]? from fun k hk => put4_other w1 _ _ _ _ _ _ hk)
  have k0 := cell_of_row w1 w.heap.size 0 _ _ _ hb1
  have k1 := cell_of_row w1 w.heap.size 1 _ _ _ hb1
  have k2 := cell_of_row w1 w.heap.size 2 _ _ _ hb1
  have k3 := cell_of_row w1 w.heap.size 3 _ _ _ hb1
  simp only [List.getElem?_toArray, List.getElem?_cons_zero, List.getElem?_cons_succ] at k0 k1 k2 k3
  have f0 := frozen_of_row w1 w.heap.size 0 _ _ hb1
  have f1 := frozen_of_row w1 w.heap.size 1 _ _ hb1
  have f2 := frozen_of_row w1 w.heap.size 2 _ _ hb1
  have f3 := frozen_of_row w1 w.heap.size 3 _ _ hb1
  have m0 := cell_of_row _ w.heap.size 0 _ _ _ HPS.out
  have m1 := cell_of_row _ w.heap.size 1 _ _ _ HPS.out
  have m2 := cell_of_row _ w.heap.size 2 _ _ _ HPS.out
  have m3 := cell_of_row _ w.heap.size 3 _ _ _ HPS.out
  simp only [List.getElem?_toArray, List.getElem?_cons_zero, List.getElem?_cons_succ] at m0 m1 m2 m3
  have HO := Lib.hid (rows_far hb1 HOU.out hx)
  unfold put4 at m0 m1 m2 m3 HPU HO
  clear HP HPS hz1 hb1 hU1 HB HU hx HOU
  go_wp2_with fail
  clear k0 k1 k2 k3 f0 f1 f2 f3 hmf
  refine bodyPost_ret (v := .tuple #[.int .i64 (P.1.getD 0), .agg #[.bool P.1.isSome, .slice X P.2.acc.length cX, .slice N P.2.nts.length cN, .slice L (shortL P.2.loc).length cL]]) (by simp [results, Try.results25, go_sem, m0, m1, m2, m3]) rfl ?_
  exact ⟨_, rfl, ⟨X, cX, N, cN, L, cL, rfl, HO.out⟩, HPU.out⟩

end Go.Proofs.Ytpandnodeldbjaa
