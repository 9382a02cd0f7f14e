/-
  Package bench: Pick.
-/
import Derived.Test.YtedkgamecdmjdaaBenF
import Derived.Laws.AppendOwnNone
set_option linter.unusedVariables false
set_option linter.unusedSimpArgs false
namespace Go.Proofs.Ytedkgamecdmjdaa
open Go.RowKit

/-- 'out = append(a, b..)': b is a row of its own, or nil. -/
theorem wpList_appendOwn {P : Program} {ops : Array Oper} {rest : List Oper} {o : Oper} {a : Act} {Q : Exit → Act → World → Prop} {w : World} (hgd : o.guard = none) (s x : Operand) (t : TypeId)
    (ho : o.op = .call { callee := .builtin .append, args := #[s, x], argTypes := #[t, t] })
    (B : Nat) (e : TypeId) (i : TypeInfo) (z : Value) (size bytes : Nat) (ht : P.underlying t = some (.slice e)) (hi : P.info? e = some i) (hz : i.zero = some z)
    (hsize : i.size = size) (hby : i.bytes = bytes) (hzs : z.cells.size = size) (hsz : 0 < size)
    (v : Value) (n : Nat) (xs : List Value) (hs : a.eval s = v) (hown : w.ownsRow B e size v n xs)
    (B2 : Nat) (v2 : Value) (m : Nat) (ys : List Value) (hx : a.eval x = v2) (hown2 : w.ownsRow B2 e size v2 m ys) (h1 : ∀ u ∈ ys, u.oneCell' = true)
    (hb1 : 0 < bytes) (hbytes : (n + m) * bytes ≤ 140737488355328) (hB : B ≤ w.heap.size)
    (h : ∀ v' w', w'.ownsRow B e size v' (n + m) (xs ++ ys) → w.grownBy w' v.ownBlock → Below B w w' → wpList P ops Q rest (a.put o.dst v') w') :
    wpList P ops Q (o :: rest) a w := by
  have h63 : n + m ≤ maxLen := by
    have : n + m ≤ (n + m) * bytes := Nat.le_mul_of_pos_right _ hb1
    unfold maxLen; omega
  rcases hown2.2 with ⟨rfl, rfl⟩ | ⟨g, cap, cur, rfl, hg, hh, hcap, hmax, hsz2, hcells⟩
  · have hys : ys = [] := List.eq_nil_of_length_eq_zero (by have := hown2.1; omega)
    subst hys
    refine wpList_append_own_none hgd s x t ho B e i size ht hi v n xs hs hown hx ?_
    exact h v w (by simpa using hown) (World.grownBy.refl w _) (Below.refl _ _)
  · refine wpList_append_own_at (w := w) hgd s x t ho B e i z size bytes ht hi hz hsize hby hzs hsz v n xs hs hown ⟨g, 0, none⟩ m cap ys hx hown2.1 ?_ h1 h63 hbytes hB ?_
    · intro j u hu
      rw [Go.WideShapes.add_plain, Nat.zero_add, cell_of_row w g j _ _ _ hh]
      rw [← hcells, List.getElem?_take] at hu
      split at hu
      · simpa using hu
      · cases hu
    · intro v' w' hown' hgr _ _
      exact h v' w' hown' hgr (grownBy_below hgr hB (own_ge hown))
theorem own_one (w : World) (news : List Value) (e : TypeId) (size : Nat) (hl : news.length = size) : (w.alloc (.cells news.toArray e)).ownsRow w.heap.size e size (.slice (some ⟨w.heap.size, 0, none⟩) 1 1) 1 news :=
  ⟨by omega, .inr ⟨w.heap.size, 1, news.toArray, rfl, Nat.le_refl _, heap_alloc_new w _, Nat.le_refl _, by unfold maxLen; decide, by simp [hl], by rw [Nat.one_mul, ← hl]; simp⟩⟩

section
variable {w0 w : World} {b g h c1 : Nat} {F : Nat} {cap : Array Value} {p : TS → Option Int × TS} {l : List SD} {s : TB} {u : BS} {N : Nat} {vm va vl : Value} {X : Nat → Prop}

set_option maxRecDepth 10000 in
set_option maxHeartbeats 2000000 in
/-- A pick of a thread that is over. -/
theorem pick_over {f : Value} (H : Ben w0 w b g h c1 f l s u N vm va vl X) (ho : overB s.st s.next s.many = true) :
    Calls Try.prog 5 #[.pointer (some ⟨b, 0, none⟩), .int .i64 0] w fun e w' => e = .returned (.slice none 0 0) ∧ Up w0 w' := by
  have hat := at_any b g c1 0 w (H.cb.cell 1 (by decide))
  rw [if_pos rfl] at hat
  have HAT := Lib.hid hat
  have b5 : w.cell? ⟨b, 5, none⟩ = some (.int .i64 s.now) := H.cb.cell 5 (by decide)
  have f5 := H.cb.fz 5
  have HN := Lib.hid (H.setNow (wrap64 (s.now + 1)))
  have hto := tover_any g s.st s.next s.many _ (HN.out.cg.cell 0 (by decide)) (HN.out.cg.cell 1 (by decide)) (HN.out.cg.cell 7 (by decide))
  rw [ho] at hto
  have HTO := Lib.hid hto
  clear hat hto H ho
  go_enter Try.func5, Try.ntmps5
  go_wp2_with fail
  refine HAT.out.mono ?_
  rintro e w1 ⟨rfl, rfl⟩
  go_wp2_with fail
  refine HTO.out.mono ?_
  rintro e w2 ⟨rfl, hu⟩
  have HU := Lib.hid (HN.out.up.trans hu)
  clear hu b5 f5
  go_wp2_with fail
  go_ret
  exact ⟨rfl, HU.out⟩

set_option maxRecDepth 10000 in
set_option maxHeartbeats 4000000 in
/-- A pick of a thread that has begun an access. -/
theorem pick_begun (H : Ben w0 w b g h c1 (.func (.func F) #[] cap) l s u N vm va vl X) (hst : s.st = 2) (hN : N ≤ 1000) (mk : Int → CS) (ha' : s.ans.length ≤ 2000) (hm' : s.ms ≤ 1000000)
    (hcf : ∀ (args : Array Value) (W : World), (callFunc F args).run Try.prog W = .ok (.enter F args) W)
    (hdo : ∀ (W : World) (g' B : Nat), Up w0 W → w0.heap.size ≤ g' → Tape1 W g' B ⟨s.ans ++ [(u.endA mk 0 0).1], s.loc, [], []⟩ → Calls Try.prog F (#[.pointer (some ⟨g', 0, none⟩), .int .i64 0, .int .i64 s.next] ++ cap) W (TPost encI g' B W (p ⟨s.ans ++ [(u.endA mk 0 0).1], s.loc, [], []⟩)))
    (hl0 : s.loc.length ≤ 32768) (hn0 : 0 ≤ s.nts) (hn1 : s.nts ≤ 1000) (r : Option Int × TS) (hr : p ⟨s.ans ++ [(u.endA mk 0 0).1], s.loc, [], []⟩ = r) (hn : r.2.nts.length ≤ 1000) (ha : r.2.acc.length ≤ 1000) (hac : r.1 = none → 1 ≤ r.2.acc.length) (hll : (shortL r.2.loc).length ≤ 1000000) :
    Calls Try.prog 5 #[.pointer (some ⟨b, 0, none⟩), .int .i64 0] w fun e w' => ∃ w1 vm' va' X', PlayPost w0 w1 b g h c1 (.func (.func F) #[] cap) l { s with now := wrap64 (s.now + 1), ans := s.ans ++ [(u.endA mk 0 0).1], ms := s.ms + 1 } (u.endA mk 0 0).2.2 N vm' va' vl X' r.1 r.2 e w' := by
  have hat := at_any b g c1 0 w (H.cb.cell 1 (by decide))
  rw [if_pos rfl] at hat
  have HAT := Lib.hid hat
  have b5 : w.cell? ⟨b, 5, none⟩ = some (.int .i64 s.now) := H.cb.cell 5 (by decide)
  have f5 := H.cb.fz 5
  have HN := Lib.hid (H.setNow (wrap64 (s.now + 1)))
  have hto := tover_any g s.st s.next s.many _ (HN.out.cg.cell 0 (by decide)) (HN.out.cg.cell 1 (by decide)) (HN.out.cg.cell 7 (by decide))
  have hov : overB s.st s.next s.many = false := by unfold overB; rw [hst]; rfl
  rw [hov] at hto
  have HTO := Lib.hid hto
  have HST := Lib.hid hst
  have HEN := Lib.hid (fun (W : World) (H2 : Ben w0 W b g h c1 (.func (.func F) #[] cap) l { s with now := wrap64 (s.now + 1) } u N vm va vl X) => bend_any H2 hN mk (by dsimp only; omega) hm')
  have HPL := Lib.hid (fun (W : World) (vm' va' : Value) (X' : Nat → Prop) (H2 : Ben w0 W b g h c1 (.func (.func F) #[] cap) l { s with now := wrap64 (s.now + 1), ans := s.ans ++ [(u.endA mk 0 0).1], ms := s.ms + 1 } (u.endA mk 0 0).2.2 N vm' va' vl X') => play_any (p := p) H2 hcf hdo hl0 (by simp; omega) hn0 hn1 r hr hn ha hac hll)
  clear hat hto H hov hst hdo hcf hr hn ha hac hll hl0 hn0 hn1 ha' hm' hN
  go_enter Try.func5, Try.ntmps5
  go_wp2_with fail
  refine HAT.out.mono ?_
  rintro e w1 ⟨rfl, rfl⟩
  go_wp2_with fail
  refine HTO.out.mono ?_
  rintro e w2 ⟨rfl, hu⟩
  have HN2 := Lib.hid (HN.out.grow hu)
  clear hu b5 f5 HTO HN HAT
  have g7 : w2.cell? ⟨g, 7, none⟩ = some (.int .i64 2) := by have h := HN2.out.cg.cell 7 (by decide); rw [← HST.out]; exact h
  go_wp2_with fail
  refine (HEN.out w2 HN2.out).mono ?_
  rintro e w3 ⟨rfl, vm', va', X', h3⟩
  have HP3 := Lib.hid (HPL.out w3 vm' va' X' h3)
  clear h3 HPL HEN g7
  go_wp2_with fail
  refine HP3.out.mono ?_
  intro e w4 h4
  obtain ⟨ro, s'⟩ := r
  cases ro with
  | none =>
    obtain ⟨h0, v, xs, rfl, h5⟩ := h4
    have H5 := Lib.hid (And.intro h0 h5)
    clear h5 h0
    go_wp2_with fail
    go_ret
    exact ⟨w3, vm', va', X', H5.out.1, v, xs, rfl, H5.out.2⟩
  | some v0 =>
    obtain ⟨h0, v, xs, rfl, h5⟩ := h4
    have H5 := Lib.hid (And.intro h0 h5)
    clear h5 h0
    go_wp2_with fail
    go_ret
    exact ⟨w3, vm', va', X', H5.out.1, v, xs, rfl, H5.out.2⟩
end

end Go.Proofs.Ytedkgamecdmjdaa
