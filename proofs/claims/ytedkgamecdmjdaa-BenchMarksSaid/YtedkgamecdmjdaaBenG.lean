/-
  Package bench: Pick.
-/
import Derived.Test.YtedkgamecdmjdaaBenF
import Derived.Laws.AppendOwnNone
set_option linter.unusedVariables false
set_option linter.unusedSimpArgs false
namespace Go.Proofs.Ytedkgamecdmjdaa
open Go.RowKit

/-- 'out = append(a, b..)': b is a row of its own, or nil. -/
theorem wpList_appendOwn {P : Program} {ops : Array Oper} {rest : List Oper} {o : Oper} {a : Act} {Q : Exit → Act → World → Prop} {w : World} (hgd : o.guard = none) (s x : Operand) (t : TypeId)
    (ho : o.op = .call { callee := .builtin .append, args := #[s, x], argTypes := #[t, t] })
    (B : Nat) (e : TypeId) (i : TypeInfo) (z : Value) (size bytes : Nat) (ht : P.underlying t = some (.slice e)) (hi : P.info? e = some i) (hz : i.zero = some z)
    (hsize : i.size = size) (hby : i.bytes = bytes) (hzs : z.cells.size = size) (hsz : 0 < size)
    (v : Value) (n : Nat) (xs : List Value) (hs : a.eval s = v) (hown : w.ownsRow B e size v n xs)
    (B2 : Nat) (v2 : Value) (m : Nat) (ys : List Value) (hx : a.eval x = v2) (hown2 : w.ownsRow B2 e size v2 m ys) (h1 : ∀ u ∈ ys, u.oneCell' = true)
    (hb1 : 0 < bytes) (hbytes : (n + m) * bytes ≤ 140737488355328) (hB : B ≤ w.heap.size)
    (h : ∀ v' w', w'.ownsRow B e size v' (n + m) (xs ++ ys) → w.grownBy w' v.ownBlock → Below B w w' → wpList P ops Q rest (a.put o.dst v') w') :
    wpList P ops Q (o :: rest) a w := by
  have h63 : n + m ≤ maxLen := by
    have : n + m ≤ (n + m) * bytes := Nat.le_mul_of_pos_right _ hb1
    unfold maxLen; omega
  rcases hown2.2 with ⟨rfl, rfl⟩ | ⟨g, cap, cur, rfl, hg, hh, hcap, hmax, hsz2, hcells⟩
  · have hys : ys = [] := List.eq_nil_of_length_eq_zero (by have := hown2.1; omega)
    subst hys
    refine wpList_append_own_none hgd s x t ho B e i size ht hi v n xs hs hown hx ?_
    exact h v w (by simpa using hown) (World.grownBy.refl w _) (Below.refl _ _)
  · refine wpList_append_own_at (w := w) hgd s x t ho B e i z size bytes ht hi hz hsize hby hzs hsz v n xs hs hown ⟨g, 0, none⟩ m cap ys hx hown2.1 ?_ h1 h63 hbytes hB ?_
    · intro j u hu
      rw [Go.WideShapes.add_plain, Nat.zero_add, cell_of_row w g j _ _ _ hh]
      rw [← hcells, List.getElem?_take] at hu
      split at hu
      · simpa using hu
      · cases hu
    · intro v' w' hown' hgr _ _
      exact h v' w' hown' hgr (grownBy_below hgr hB (own_ge hown))
theorem own_one (w : World) (news : List Value) (e : TypeId) (size : Nat) (hl : news.length = size) : (w.alloc (.cells news.toArray e)).ownsRow w.heap.size e size (.slice (some ⟨w.heap.size, 0, none⟩) 1 1) 1 news :=
  ⟨by omega, .inr ⟨w.heap.size, 1, news.toArray, rfl, Nat.le_refl _, heap_alloc_new w _, Nat.le_refl _, by unfold maxLen; decide, by simp [hl], by rw [Nat.one_mul, ← hl]; simp⟩⟩

section
variable {w0 w : World} {b g h c1 : Nat} {F : Nat} {cap : Array Value} {p : TS → Option Int × TS} {l : List SD} {s : TB} {u : BS} {N : Nat} {vm va vl : Value} {X : Nat → Prop}

set_option maxRecDepth 10000 in
set_option maxHeartbeats 2000000 in
/-- A pick of a thread that is over. -/
theorem pick_over {f : Value} (H : Ben w0 w b g h c1 f l s u N vm va vl X) (ho : overB s.st s.next s.many = true) :
    Calls Try.prog 5 #[.pointer (some ⟨b, 0, none⟩), .int .i64 0] w fun e w' => e = .returned (.slice none 0 0) ∧ Up w0 w' := by
  have hat := at_any b g c1 0 w (H.cb.cell 1 (by decide))
  rw [if_pos rfl] at hat
  have HAT := Lib.hid hat
  have b5 : w.cell? ⟨b, 5, none⟩ = some (.int .i64 s.now) := H.cb.cell 5 (by decide)
  have f5 := H.cb.fz 5
  have HN := Lib.hid (H.setNow (wrap64 (s.now + 1)))
  have hto := tover_any g s.st s.next s.many _ (HN.out.cg.cell 0 (by decide)) (HN.out.cg.cell 1 (by decide)) (HN.out.cg.cell 7 (by decide))
  rw [ho] at hto
  have HTO := Lib.hid hto
  clear hat hto H ho
  go_enter Try.func5, Try.ntmps5
  go_wp2_with fail
  refine HAT.out.mono ?_
  rintro e w1 ⟨rfl, rfl⟩
  go_wp2_with fail
  refine HTO.out.mono ?_
  rintro e w2 ⟨rfl, hu⟩
  have HU := Lib.hid (HN.out.up.trans hu)
  clear hu b5 f5
  go_wp2_with fail
  go_ret
  exact ⟨rfl, HU.out⟩

set_option maxRecDepth 10000 in
set_option maxHeartbeats 4000000 in
/-- A pick of a thread that has begun an access. -/
theorem pick_begun (H : Ben w0 w b g h c1 (.func (.func F) #[] cap) l s u N vm va vl X) (hst : s.st = 2) (hN : N ≤ 1000) (mk : Int → CS) (ha' : s.ans.length ≤ 2000) (hm' : s.ms ≤ 1000000)
    (hcf : ∀ (args : Array Value) (W : World), (callFunc F args).run Try.prog W = .ok (.enter F args) W)
    (hdo : ∀ (W : World) (g' B : Nat), Up w0 W → w0.heap.size ≤ g' → Tape1 W g' B ⟨s.ans ++ [(u.endA mk 0 0).1], s.loc, [], []⟩ → Calls Try.prog F (#[.pointer (some ⟨g', 0, none⟩), .int .i64 0, .int .i64 s.next] ++ cap) W (TPost encI g' B W (p ⟨s.ans ++ [(u.endA mk 0 0).1], s.loc, [], []⟩)))
    (hl0 : s.loc.length ≤ 32768) (hn0 : 0 ≤ s.nts) (hn1 : s.nts ≤ 1000) (r : Option Int × TS) (hr : p ⟨s.ans ++ [(u.endA mk 0 0).1], s.loc, [], []⟩ = r) (hn : r.2.nts.length ≤ 1000) (ha : r.2.acc.length ≤ 1000) (hac : r.1 = none → 1 ≤ r.2.acc.length) (hll : (shortL r.2.loc).length ≤ 1000000) :
    Calls Try.prog 5 #[.pointer (some ⟨b, 0, none⟩), .int .i64 0] w fun e w' => ∃ w1 vm' va' X', PlayPost w0 w1 b g h c1 (.func (.func F) #[] cap) l { s with now := wrap64 (s.now + 1), ans := s.ans ++ [(u.endA mk 0 0).1], ms := s.ms + 1 } (u.endA mk 0 0).2.2 N vm' va' vl X' r.1 r.2 e w' := by
  have hat := at_any b g c1 0 w (H.cb.cell 1 (by decide))
  rw [if_pos rfl] at hat
  have HAT := Lib.hid hat
  have b5 : w.cell? ⟨b, 5, none⟩ = some (.int .i64 s.now) := H.cb.cell 5 (by decide)
  have f5 := H.cb.fz 5
  have HN := Lib.hid (H.setNow (wrap64 (s.now + 1)))
  have hto := tover_any g s.st s.next s.many _ (HN.out.cg.cell 0 (by decide)) (HN.out.cg.cell 1 (by decide)) (HN.out.cg.cell 7 (by decide))
  have hov : overB s.st s.next s.many = false := by unfold overB; rw [hst]; rfl
  rw [hov] at hto
  have HTO := Lib.hid hto
  have HST := Lib.hid hst
  have HEN := Lib.hid (fun (W : World) (H2 : Ben w0 W b g h c1 (.func (.func F) #[] cap) l { s with now := wrap64 (s.now + 1) } u N vm va vl X) => bend_any H2 hN mk (by dsimp only; omega) hm')
  have HPL := Lib.hid (fun (W : World) (vm' va' : Value) (X' : Nat → Prop) (H2 : Ben w0 W b g h c1 (.func (.func F) #[] cap) l { s with now := wrap64 (s.now + 1), ans := s.ans ++ [(u.endA mk 0 0).1], ms := s.ms + 1 } (u.endA mk 0 0).2.2 N vm' va' vl X') => play_any (p := p) H2 hcf hdo hl0 (by simp; omega) hn0 hn1 r hr hn ha hac hll)
  clear hat hto H hov hst hdo hcf hr hn ha hac hll hl0 hn0 hn1 ha' hm' hN
  go_enter Try.func5, Try.ntmps5
  go_wp2_with fail
  refine HAT.out.mono ?_
  rintro e w1 ⟨rfl, rfl⟩
  go_wp2_with fail
  refine HTO.out.mono ?_
  rintro e w2 ⟨rfl, hu⟩
  have HN2 := Lib.hid (HN.out.grow hu)
  clear hu b5 f5 HTO HN HAT
  have g7 : w2.cell? ⟨g, 7, none⟩ = some (.int .i64 2) := by have h := HN2.out.cg.cell 7 (by decide); rw [← HST.out]; exact h
  go_wp2_with fail
  refine (HEN.out w2 HN2.out).mono ?_
  rintro e w3 ⟨rfl, vm', va', X', h3⟩
  have HP3 := Lib.hid (HPL.out w3 vm' va' X' h3)
  clear h3 HPL HEN g7
  go_wp2_with fail
  refine HP3.out.mono ?_
  intro e w4 h4
  obtain ⟨ro, s'⟩ := r
  cases ro with
  | none =>
    obtain ⟨h0, v, xs, rfl, h5⟩ := h4
    have H5 := Lib.hid (And.intro h0 h5)
    clear h5 h0
    go_wp2_with fail
    go_ret
    exact ⟨w3, vm', va', X', H5.out.1, v, xs, rfl, H5.out.2⟩
  | some v0 =>
    obtain ⟨h0, v, xs, rfl, h5⟩ := h4
    have H5 := Lib.hid (And.intro h0 h5)
    clear h5 h0
    go_wp2_with fail
    go_ret
    exact ⟨w3, vm', va', X', H5.out.1, v, xs, rfl, H5.out.2⟩
end

end Go.Proofs.Ytedkgamecdmjdaa

/-
  Package bench: Pick of a thread that begins an operation, and of one that has asked.
-/
namespace Go.Proofs.Ytedkgamecdmjdaa
open Go.RowKit

/-- What grows is a row of events that the bench does not hold. -/
theorem Ben.offEv {w0 w w' : World} {b g h c1 zb : Nat} {f : Value} {l : List SD} {s : TB} {u : BS} {N : Nat} {vm va vl : Value} {X : Nat → Prop} {n : Nat} {v : Value} {xs : List Value} (H : Ben w0 w b g h c1 f l s u N vm va vl X)
    (hz : w.ownsRow zb 61 7 v n xs) (hv : v.ownBlock = some zb) (hb : b ≠ zb) (hg : g ≠ zb) (hX : ¬ X zb) (G : w.grownBy w' v.ownBlock) (hw : w0.heap.size ≤ zb) : Ben w0 w' b g h c1 f l s u N vm va vl X := by
  have hk : ∀ k, k < w.heap.size → k ≠ zb → w'.heap[k]? = w.heap[k]? := fun k hk hne => G.block k hk (fun e => by rw [hv] at e; exact hne (Option.some.inj e))
  have hty : ∃ cur, w.heap[zb]? = some (.cells cur 61 (0, 0)) := by
    rcases hz.2 with ⟨rfl, _⟩ | ⟨g', cap, cur, rfl, _, h2, _⟩
    · simp [Value.ownBlock] at hv
    · simp only [Value.ownBlock, Option.some.injEq] at hv
      subst hv
      exact ⟨cur, h2⟩
  obtain ⟨cur, hcur⟩ := hty
  have hno : ∀ {e size n : Nat} {v2 : Value} {ys : List Value} {B : Nat}, w.ownsRow B e size v2 n ys → e ≠ 61 → v2.ownBlock ≠ some zb := fun {e size n v2 ys B} ho hne hq => by
    rcases ho.2 with ⟨rfl, _⟩ | ⟨g', cap, cur', rfl, _, h2, _⟩
    · simp [Value.ownBlock] at hq
    · simp only [Value.ownBlock, Option.some.injEq] at hq
      subst hq
      rw [hcur] at h2
      simp only [Option.some.injEq, Obj.cells.injEq] at h2
      exact hne h2.2.1.symm
  refine H.keep (Below.trans H.up (grownBy_below G H.sz (fun k e => by rw [hv] at e; have := Option.some.inj e; omega))) G.size fun k hlt hkk => hk k hlt ?_
  rcases hkk with rfl | rfl | e | e | e | e
  · exact hb
  · exact hg
  · rintro rfl
    obtain ⟨ys, hy, _⟩ := H.rm
    exact hno hy (by decide) e
  · rintro rfl; exact hno H.ra (by decide) e
  · rintro rfl; exact hno H.rl (by decide) e
  · rintro rfl; exact hX e

/-- What a pick leaves that begins an operation. -/
def IdlePost (w0 : World) (b g h c1 : Nat) (f : Value) (l : List SD) (s : TB) (u : BS) (N : Nat) (vm va vl : Value) (X : Nat → Prop) (ro : Option Int) (s' : TS) (e : Ending) (w' : World) : Prop :=
  match ro with
      | none => ∃ A c X', e = .returned (.slice A (1 + ((s'.nts.length : Int) - s.nts).toNat) c) ∧ Ben w0 w' b g h c1 f l { s with now := wrap64 (s.now + 1), nts := s'.nts.length, acc := s'.acc.getD (s'.acc.length - 1) (0, 0, 0), st := 2 }
          (u.begin (cntK l l.length) 6 (mkP l) 0 (s'.acc.getD (s'.acc.length - 1) (0, 0, 0)).1 (s'.acc.getD (s'.acc.length - 1) (0, 0, 0)).2.1 (s'.acc.getD (s'.acc.length - 1) (0, 0, 0)).2.2).2 (N + 9) vm va vl X'
      | some _ => ∃ v vl', e = .returned v ∧ Ben w0 w' b g h c1 f l { s with now := wrap64 (s.now + 1), loc := shortL s'.loc, ans := [], nts := 0, st := 0, next := wrap64 (s.next + 1) } u N vm (.slice none 0 0) vl' X

section
variable {w0 w : World} {b g h c1 : Nat} {F : Nat} {cap : Array Value} {p : TS → Option Int × TS} {l : List SD} {s : TB} {u : BS} {N : Nat} {vm va vl : Value} {X : Nat → Prop}

set_option maxRecDepth 10000 in
set_option maxHeartbeats 2000000 in
/-- A pick of a thread that has asked for an access. -/
theorem pick_asked {f : Value} (H : Ben w0 w b g h c1 f l s u N vm va vl X) (hst : s.st = 1) (hfit : Fit l) (hN : N ≤ 900)
    (hok : (u.begin (cntK l l.length) 6 (mkP l) 0 s.acc.1 s.acc.2.1 s.acc.2.2).1 = 0) :
    Calls Try.prog 5 #[.pointer (some ⟨b, 0, none⟩), .int .i64 0] w fun e w' => e = .returned (.slice none 0 0) ∧ ∃ X', Ben w0 w' b g h c1 f l { s with now := wrap64 (s.now + 1), st := 2 } (u.begin (cntK l l.length) 6 (mkP l) 0 s.acc.1 s.acc.2.1 s.acc.2.2).2 (N + 9) vm va vl X' := by
  have hat := at_any b g c1 0 w (H.cb.cell 1 (by decide))
  rw [if_pos rfl] at hat
  have HAT := Lib.hid hat
  have b5 : w.cell? ⟨b, 5, none⟩ = some (.int .i64 s.now) := H.cb.cell 5 (by decide)
  have f5 := H.cb.fz 5
  have HN := Lib.hid (H.setNow (wrap64 (s.now + 1)))
  have hto := tover_any g s.st s.next s.many _ (HN.out.cg.cell 0 (by decide)) (HN.out.cg.cell 1 (by decide)) (HN.out.cg.cell 7 (by decide))
  have hov : overB s.st s.next s.many = false := by unfold overB; rw [hst]; rfl
  rw [hov] at hto
  have HTO := Lib.hid hto
  have HST := Lib.hid hst
  have HBG := Lib.hid (fun (W : World) (H2 : Ben w0 W b g h c1 f l { s with now := wrap64 (s.now + 1) } u N vm va vl X) => bbegin_any H2 hfit hN hok)
  clear hat hto H hov hst hok hfit hN
  go_enter Try.func5, Try.ntmps5
  go_wp2_with fail
  refine HAT.out.mono ?_
  rintro e w1 ⟨rfl, rfl⟩
  go_wp2_with fail
  refine HTO.out.mono ?_
  rintro e w2 ⟨rfl, hu⟩
  have HN2 := Lib.hid (HN.out.grow hu)
  clear hu b5 f5 HTO HN HAT
  have g7 : w2.cell? ⟨g, 7, none⟩ = some (.int .i64 1) := by have h := HN2.out.cg.cell 7 (by decide); rw [← HST.out]; exact h
  go_wp2_with fail
  refine (HBG.out w2 HN2.out).mono ?_
  rintro e w3 ⟨rfl, X', h3⟩
  have H3 := Lib.hid h3
  clear h3 g7 HBG
  go_wp2_with fail
  go_ret
  exact ⟨rfl, X', H3.out⟩

set_option maxRecDepth 10000 in
set_option maxHeartbeats 4000000 in
/-- A pick of a thread that begins an operation. -/
theorem pick_idle (H : Ben w0 w b g h c1 (.func (.func F) #[] cap) l s u N vm va vl X) (hst : s.st = 0) (hov : s.next < s.many) (hfit : Fit l) (hN : N ≤ 900)
    (hcf : ∀ (args : Array Value) (W : World), (callFunc F args).run Try.prog W = .ok (.enter F args) W)
    (hdo : ∀ (W : World) (g' B : Nat), Up w0 W → w0.heap.size ≤ g' → Tape1 W g' B ⟨s.ans, s.loc, [], []⟩ → Calls Try.prog F (#[.pointer (some ⟨g', 0, none⟩), .int .i64 0, .int .i64 s.next] ++ cap) W (TPost encI g' B W (p ⟨s.ans, s.loc, [], []⟩)))
    (hl0 : s.loc.length ≤ 32768) (hl1 : s.ans.length ≤ 3000) (hn0 : 0 ≤ s.nts) (hn1 : s.nts ≤ 1000) (r : Option Int × TS) (hr : p ⟨s.ans, s.loc, [], []⟩ = r) (hn : r.2.nts.length ≤ 1000) (ha : r.2.acc.length ≤ 1000) (hac : r.1 = none → 1 ≤ r.2.acc.length) (hll : (shortL r.2.loc).length ≤ 1000000)
    (hok : r.1 = none → (u.begin (cntK l l.length) 6 (mkP l) 0 (r.2.acc.getD (r.2.acc.length - 1) (0, 0, 0)).1 (r.2.acc.getD (r.2.acc.length - 1) (0, 0, 0)).2.1 (r.2.acc.getD (r.2.acc.length - 1) (0, 0, 0)).2.2).1 = 0) :
    Calls Try.prog 5 #[.pointer (some ⟨b, 0, none⟩), .int .i64 0] w (IdlePost w0 b g h c1 (.func (.func F) #[] cap) l s u N vm va vl X r.1 r.2) := by
  have hat := at_any b g c1 0 w (H.cb.cell 1 (by decide))
  rw [if_pos rfl] at hat
  have HAT := Lib.hid hat
  have b5 : w.cell? ⟨b, 5, none⟩ = some (.int .i64 s.now) := H.cb.cell 5 (by decide)
  have f5 := H.cb.fz 5
  have HN := Lib.hid (H.setNow (wrap64 (s.now + 1)))
  have hto := tover_any g s.st s.next s.many _ (HN.out.cg.cell 0 (by decide)) (HN.out.cg.cell 1 (by decide)) (HN.out.cg.cell 7 (by decide))
  have hov : overB s.st s.next s.many = false := by unfold overB; rw [hst]; simp; omega
  rw [hov] at hto
  have HTO := Lib.hid hto
  have HST := Lib.hid hst
  have HBG := Lib.hid (fun (ac : Int × Int × Int) (hk : (u.begin (cntK l l.length) 6 (mkP l) 0 ac.1 ac.2.1 ac.2.2).1 = 0) (W : World) (n : Int) (H2 : Ben w0 W b g h c1 (.func (.func F) #[] cap) l { s with now := wrap64 (s.now + 1), nts := n, acc := ac, st := 1 } u N vm va vl X) => bbegin_any H2 hfit hN hk)
  have HPL := Lib.hid (fun (W : World) (H2 : Ben w0 W b g h c1 (.func (.func F) #[] cap) l { s with now := wrap64 (s.now + 1) } u N vm va vl X) => play_any (p := p) H2 hcf hdo hl0 hl1 hn0 hn1 r hr hn ha hac hll)
  obtain ⟨ro, s'⟩ := r
  dsimp only at hn hok HPL ⊢
  have HOK := Lib.hid hok
  have HNN := Lib.hid (show ((s'.nts.length : Int) - s.nts).toNat ≤ 1000 by omega)
  clear hat hto H hov hst hdo hcf hr hn ha hac hll hl0 hn0 hn1 hN hok hl1 hfit
  go_enter Try.func5, Try.ntmps5
  go_wp2_with fail
  refine HAT.out.mono ?_
  rintro e w1 ⟨rfl, rfl⟩
  go_wp2_with fail
  refine HTO.out.mono ?_
  rintro e w2 ⟨rfl, hu⟩
  have HN2 := Lib.hid (HN.out.grow hu)
  clear hu b5 f5 HTO HN HAT
  have g7 : w2.cell? ⟨g, 7, none⟩ = some (.int .i64 0) := by have h := HN2.out.cg.cell 7 (by decide); rw [← HST.out]; exact h
  go_wp2_with fail
  clear g7
  have hS : w2.drew.cell? ⟨b, 5, none⟩ = some (.int .i64 (wrap64 (s.now + 1))) ∧ w2.drew.cell? ⟨g, 1, none⟩ = some (.int .i64 s.next) := ⟨HN2.out.cb.cell 5 (by decide), HN2.out.cg.cell 1 (by decide)⟩
  have hu3 : Up w2 (w2.alloc (.cells #[.int .i64 (wrap64 (s.now + 1)), .int .i64 1, .int .i64 0, .int .i64 s.next, .int .i64 0, .int .i64 0, .int .i64 0] 61)).drew := ((Up.refl w2).alloc _).drew
  have HN3 := Lib.hid (HN2.out.grow hu3)
  have hS3 : (w2.alloc (.cells #[.int .i64 (wrap64 (s.now + 1)), .int .i64 1, .int .i64 0, .int .i64 s.next, .int .i64 0, .int .i64 0, .int .i64 0] 61)).drew.cell? ⟨b, 5, none⟩ = some (.int .i64 (wrap64 (s.now + 1))) ∧ (w2.alloc (.cells #[.int .i64 (wrap64 (s.now + 1)), .int .i64 1, .int .i64 0, .int .i64 s.next, .int .i64 0, .int .i64 0, .int .i64 0] 61)).drew.cell? ⟨g, 1, none⟩ = some (.int .i64 s.next) := ⟨HN3.out.cb.cell 5 (by decide), HN3.out.cg.cell 1 (by decide)⟩
  have HR3 := Lib.hid (show (w2.alloc (.cells #[.int .i64 (wrap64 (s.now + 1)), .int .i64 1, .int .i64 0, .int .i64 s.next, .int .i64 0, .int .i64 0, .int .i64 0] 61)).drew.ownsRow w2.heap.size 61 7 (.slice (some ⟨w2.heap.size, 0, none⟩) 1 1) 1 [.int .i64 (wrap64 (s.now + 1)), .int .i64 1, .int .i64 0, .int .i64 s.next, .int .i64 0, .int .i64 0, .int .i64 0] from own_one w2 [.int .i64 (wrap64 (s.now + 1)), .int .i64 1, .int .i64 0, .int .i64 s.next, .int .i64 0, .int .i64 0, .int .i64 0] 61 7 rfl)
  have HLT := Lib.hid (show w2.heap.size < (w2.alloc (.cells #[.int .i64 (wrap64 (s.now + 1)), .int .i64 1, .int .i64 0, .int .i64 s.next, .int .i64 0, .int .i64 0, .int .i64 0] 61)).drew.heap.size ∧ w2.heap.size ≠ g by have := HN2.out.gt; simp; omega)
  have HBL := Lib.hid (And.intro HN2.out.bt HN2.out.gt)
  have HXZ := Lib.hid (show ¬ X w2.heap.size ∧ w0.heap.size ≤ w2.heap.size from ⟨fun hx => by have := (HN2.out.bk.lt _ hx).2; omega, HN2.out.sz⟩)
  refine wp_region_held_drew (S := fun w' => w'.cell? ⟨b, 5, none⟩ = some (.int .i64 (wrap64 (s.now + 1))) ∧ w'.cell? ⟨g, 1, none⟩ = some (.int .i64 s.next)) (by kernel_rfl) hS (fun hS0 => ?_)
  clear hS HN2 hu3
  refine wpAnyH_take (i := 0) (v := ?_) rfl (by kernel_rfl) (by kernel_rfl) (by kernel_rfl) (fun _ _ _ h => h) (Or.inl ⟨by kernel_rfl, ?_⟩) hS0 ?_
  rotate_left
  · intro w hSw
    try dsimp only at hSw
    go_simp
    try (with_reducible rfl)
  try simp only [Act.put, List.setIfInBounds_toArray, List.set_cons_zero, List.set_cons_succ]
  refine wpAnyH_take (i := 1) (v := ?_) rfl (by kernel_rfl) (by kernel_rfl) (by kernel_rfl) (fun _ _ _ h => h) (Or.inl ⟨by kernel_rfl, ?_⟩) hS0 ?_
  rotate_left
  · intro w hSw
    try dsimp only at hSw
    go_simp
    try (with_reducible rfl)
  try simp only [Act.put, List.setIfInBounds_toArray, List.set_cons_zero, List.set_cons_succ]
  refine wpAnyH_take (i := 2) (v := ?_) rfl (by kernel_rfl) (by kernel_rfl) (by kernel_rfl) (fun _ _ _ h => h) (Or.inl ⟨by kernel_rfl, ?_⟩) hS0 ?_
  rotate_left
  · intro w hSw
    try dsimp only at hSw
    go_simp
    try (with_reducible rfl)
  try simp only [Act.put, List.setIfInBounds_toArray, List.set_cons_zero, List.set_cons_succ]
  refine wpAnyH_take (i := 3) (v := ?_) rfl (by kernel_rfl) (by kernel_rfl) (by kernel_rfl) (fun _ _ _ h => h) (Or.inl ⟨by kernel_rfl, ?_⟩) hS0 ?_
  rotate_left
  · intro w hSw
    try dsimp only at hSw
    go_simp
    try (with_reducible rfl)
  try simp only [Act.put, List.setIfInBounds_toArray, List.set_cons_zero, List.set_cons_succ]
  refine wpAnyH_take (i := 4) (v := ?_) rfl (by kernel_rfl) (by kernel_rfl) (by kernel_rfl) (fun _ _ _ h => h) (Or.inl ⟨by kernel_rfl, ?_⟩) hS0 ?_
  rotate_left
  · intro w hSw
    try dsimp only at hSw
    go_simp
    try (with_reducible rfl)
  try simp only [Act.put, List.setIfInBounds_toArray, List.set_cons_zero, List.set_cons_succ]
  refine wpAnyH_take (i := 5) (v := ?_) rfl (by kernel_rfl) (by kernel_rfl) (by kernel_rfl) (fun _ _ _ h => h) (Or.inl ⟨by kernel_rfl, ?_⟩) hS0 ?_
  rotate_left
  · intro w hSw
    try dsimp only at hSw
    go_simp
    try (with_reducible rfl)
  try simp only [Act.put, List.setIfInBounds_toArray, List.set_cons_zero, List.set_cons_succ]
  refine wpAnyH_take (i := 6) (v := ?_) rfl (by kernel_rfl) (by kernel_rfl) (by kernel_rfl) (fun _ _ _ h => h) (Or.inl ⟨by kernel_rfl, ?_⟩) hS0 ?_
  rotate_left
  · intro w hSw
    try dsimp only at hSw
    go_simp
    try (with_reducible rfl)
  try simp only [Act.put, List.setIfInBounds_toArray, List.set_cons_zero, List.set_cons_succ]
  refine wpAnyH_take (i := 7) (v := ?_) rfl (by kernel_rfl) (by kernel_rfl) (by kernel_rfl) (fun _ _ _ h => h) (Or.inl ⟨by kernel_rfl, ?_⟩) hS0 ?_
  rotate_left
  · intro w hSw
    try dsimp only at hSw
    go_simp
    try (with_reducible rfl)
  try simp only [Act.put, List.setIfInBounds_toArray, List.set_cons_zero, List.set_cons_succ]
  refine wpAnyH_take (i := 8) (v := ?_) rfl (by kernel_rfl) (by kernel_rfl) (by kernel_rfl) (fun _ _ _ h => h) (Or.inl ⟨by kernel_rfl, ?_⟩) hS0 ?_
  rotate_left
  · intro w hSw
    try dsimp only at hSw
    go_simp
    try (with_reducible rfl)
  try simp only [Act.put, List.setIfInBounds_toArray, List.set_cons_zero, List.set_cons_succ]
  refine wpAnyH_take (i := 9) (v := ?_) rfl (by kernel_rfl) (by kernel_rfl) (by kernel_rfl) (fun _ _ _ h => h) (Or.inl ⟨by kernel_rfl, ?_⟩) hS0 ?_
  rotate_left
  · intro w hSw
    try dsimp only at hSw
    go_simp
    try (with_reducible rfl)
  try simp only [Act.put, List.setIfInBounds_toArray, List.set_cons_zero, List.set_cons_succ]
  refine wpAnyH_ready (rs := [10]) (by kernel_rfl) (by simp) ?_
  refine AllReadyH.cons rfl (fun K hK => ?_) AllReadyH.nil
  go_simp
  refine hK.out _ _ hS3 (fun hS1 => ?_)
  clear hK K
  try simp only [Act.put, List.setIfInBounds_toArray, List.set_cons_zero, List.set_cons_succ]
  refine wpAnyH_take (i := 11) (v := ?_) rfl (by kernel_rfl) (by kernel_rfl) (by kernel_rfl) (fun _ _ _ h => h) (Or.inl ⟨by kernel_rfl, ?_⟩) hS1 ?_
  rotate_left
  · intro w hSw
    try dsimp only at hSw
    go_simp
    try (with_reducible rfl)
  try simp only [Act.put, List.setIfInBounds_toArray, List.set_cons_zero, List.set_cons_succ]
  refine wpAnyH_done (by kernel_rfl) ?_ _
  try simp only [Act.put, List.setIfInBounds_toArray, List.set_cons_zero, List.set_cons_succ, List.getElem_toArray, List.getElem_cons_succ, List.getElem_cons_zero]
  clear hS0 hS1 hS3
  generalize (w2.alloc (.cells #[.int .i64 (wrap64 (s.now + 1)), .int .i64 1, .int .i64 0, .int .i64 s.next, .int .i64 0, .int .i64 0, .int .i64 0] 61)).drew = w3 at *
  obtain ⟨zb, hzb⟩ : ∃ zb, w2.heap.size = zb := ⟨_, rfl⟩
  rw [hzb] at HR3 HLT HBL HXZ ⊢
  clear hzb
  have HP3 := Lib.hid (HPL.out w3 HN3.out)
  obtain ⟨i0, hi', hz0, hz1, hz2⟩ := info_parts infoEv
  have HIE := Lib.hid hi'
  have HZ0 := Lib.hid hz0
  have HZ1 := Lib.hid hz1
  have HZ2 := Lib.hid hz2
  clear hi' hz0 hz1 hz2 HPL
  go_wp2_with fail
  refine HP3.out.mono ?_
  intro e w4 h4
  cases ro with
  | none =>
    obtain ⟨h0, v, xs, rfl, h5, h6, h7⟩ := h4
    have HR4 := Lib.hid (own_same HR3.out fun k e => by
      have e2 : k = zb := by simp only [Value.ownBlock, Option.some.injEq] at e; exact e.symm
      subst e2
      exact h0 _ HLT.out.1 HLT.out.2)
    dsimp only at h5 h7
    have H5 := Lib.hid h5
    have H6 := Lib.hid h6
    have H7 := Lib.hid h7
    have HS4 := Lib.hid (show zb ≤ w4.heap.size by have := (HR4.out.lt zb rfl).2; omega)
    clear h5 h6 h7 h0 HP3
    go_wp2_with (at_builtin; refine wpList_appendOwn rfl (.tmp 38) (.tmp 41) 23 rfl zb 61 i0 (.agg #[.int .i64 0, .int .i64 0, .int .i64 0, .int .i64 0, .int .i64 0, .int .i64 0, .int .i64 0]) 7 56 Try.underlying23 HIE.out HZ0.out HZ1.out HZ2.out rfl (by decide) _ 1 [.int .i64 (wrap64 (s.now + 1)), .int .i64 1, .int .i64 0, .int .i64 s.next, .int .i64 0, .int .i64 0, .int .i64 0] rfl HR4.out _ _ _ xs rfl H5.out H6.out (by decide) (by have := HNN.out; omega) HS4.out ?_; intro v5 w5 hown5 hg5 hbel5; have HN5 := Lib.hid (H7.out.offEv HR4.out rfl (by have := HBL.out; omega) (by have := HBL.out; omega) HXZ.out.1 hg5 HXZ.out.2); obtain ⟨A5, d5, rfl, _, _⟩ := own_form hown5; clear hown5 hg5 hbel5 HR4 H7 H5 H6; have g7 := HN5.out.cg.cell 7 (by decide); dsimp only [gF] at g7)
    refine (HBG.out _ (HOK.out (by trivial)) w5 _ HN5.out).mono ?_
    rintro e w6 ⟨rfl, X', h6⟩
    have H6 := Lib.hid h6
    clear h6 g7 HN5 HBG HOK
    go_wp2_with fail
    go_ret
    exact ⟨_, _, X', rfl, H6.out⟩
  | some v0 =>
    obtain ⟨h0, v, xs, rfl, h5, h6, vl', h7⟩ := h4
    have HR4 := Lib.hid (own_same HR3.out fun k e => by
      have e2 : k = zb := by simp only [Value.ownBlock, Option.some.injEq] at e; exact e.symm
      subst e2
      exact h0 _ HLT.out.1 HLT.out.2)
    dsimp only at h5 h7
    have H5 := Lib.hid h5
    have H6 := Lib.hid (show ∀ u ∈ xs ++ [.int .i64 (wrap64 (s.now + 1)), .int .i64 2, .int .i64 0, .int .i64 s.next, .int .i64 0, .int .i64 0, .int .i64 v0], u.oneCell' = true from fun u hu => by
      rcases List.mem_append.1 hu with hu | hu
      · exact h6 u hu
      · simp at hu; rcases hu with rfl | rfl | rfl | rfl | rfl | rfl | rfl <;> rfl)
    have H7 := Lib.hid h7
    have HS4 := Lib.hid (show zb ≤ w4.heap.size by have := (HR4.out.lt zb rfl).2; omega)
    clear h5 h6 h7 h0 HP3
    go_wp2_with (at_builtin; refine wpList_appendOwn rfl (.tmp 38) (.tmp 41) 23 rfl zb 61 i0 (.agg #[.int .i64 0, .int .i64 0, .int .i64 0, .int .i64 0, .int .i64 0, .int .i64 0, .int .i64 0]) 7 56 Try.underlying23 HIE.out HZ0.out HZ1.out HZ2.out rfl (by decide) _ 1 [.int .i64 (wrap64 (s.now + 1)), .int .i64 1, .int .i64 0, .int .i64 s.next, .int .i64 0, .int .i64 0, .int .i64 0] rfl HR4.out _ _ _ (xs ++ [.int .i64 (wrap64 (s.now + 1)), .int .i64 2, .int .i64 0, .int .i64 s.next, .int .i64 0, .int .i64 0, .int .i64 v0]) rfl H5.out H6.out (by decide) (by have := HNN.out; omega) HS4.out ?_; intro v5 w5 hown5 hg5 hbel5; have HN5 := Lib.hid (H7.out.offEv HR4.out rfl (by have := HBL.out; omega) (by have := HBL.out; omega) HXZ.out.1 hg5 HXZ.out.2); obtain ⟨A5, d5, rfl, _, _⟩ := own_form hown5; clear hown5 hg5 hbel5 HR4 H7 H5 H6; have g7 := HN5.out.cg.cell 7 (by decide); dsimp only [gF] at g7)
    go_ret
    exact ⟨_, vl', rfl, HN5.out⟩
end

end Go.Proofs.Ytedkgamecdmjdaa

/-
  Package bench: New.
-/
namespace Go.Proofs.Ytedkgamecdmjdaa
open Go.RowKit

theorem cloneI_nil (w : World) : Calls Try.prog 26 #[.slice none 0 0] w fun e w' => e = .returned (.slice none 0 0) ∧ w' = w := by
  have hnil := fun W : World => Lib.run_eql_slice_nil (P := Try.prog) W 43 3 none 0 0 0 0 Try.underlying43
  go_enter Try.func26, Try.ntmps26
  go_wp2_with fail
  go_ret
  exact ⟨rfl, rfl⟩

theorem newB_few (l : List SD) (A : Option Addr) (c : Nat) (f : Value) (w : World) (hl : l.length ≤ 1000) (hr : StripRow w A l) (h0 : (countP l).2 = 0) :
    Calls Try.prog 12 #[.slice A l.length c, .slice none 0 0, f, .slice none 0 0] w fun e w' => e = .returned (.tuple #[.pointer none, .int .i64 1]) ∧ Up w w' := by
  have HC := Lib.hid (newM_any l A c w hl hr)
  have H0 := Lib.hid h0
  clear hl hr h0
  go_enter Try.func12, Try.ntmps12
  go_wp2_with fail
  refine HC.out.mono ?_
  intro e w1 h1
  unfold NewM at h1
  rw [if_neg (by rw [H0.out]; simp)] at h1
  obtain ⟨h, X, rfl, _, hu⟩ := h1
  have HU := Lib.hid hu
  clear hu HC
  go_wp2_with fail
  go_ret2
  exact ⟨rfl, HU.out⟩
set_option maxRecDepth 10000 in
theorem newB_nil (l : List SD) (A : Option Addr) (c : Nat) (M : Option Addr) (cm : Nat) (w : World) (hl : l.length ≤ 1000) (hr : StripRow w A l) (h0 : (countP l).2 = 0) :
    Calls Try.prog 12 #[.slice A l.length c, .slice M 1 cm, Value.nilFunc, .slice none 0 0] w fun e w' => e = .returned (.tuple #[.pointer none, .int .i64 2]) ∧ Up w w' := by
  have hneq : ∀ W : World, (binOp .eql 46 .nilFunc .nilFunc).run Try.prog W = .ok (.bool true) W := fun _ => by kernel_rfl
  have HC := Lib.hid (newM_any l A c w hl hr)
  have H0 := Lib.hid h0
  clear hl hr h0
  go_enter Try.func12, Try.ntmps12
  go_wp2_with fail
  refine HC.out.mono ?_
  intro e w1 h1
  unfold NewM at h1
  rw [if_neg (by rw [H0.out]; simp)] at h1
  obtain ⟨h, X, rfl, _, hu⟩ := h1
  have HU := Lib.hid hu
  clear hu HC
  go_wp2_with fail
  go_ret2
  exact ⟨rfl, HU.out⟩

theorem infoTh : (Try.prog.info? 57).map (fun i => (i.zero, i.size, i.bytes)) = some (some (.agg #[.int .i64 0, .int .i64 0, .slice none 0 0, .slice none 0 0, .int .i64 0, .int .i64 0, .int .i64 0, .int .i64 0, .int .i64 0]), 9, 104) := by kernel_rfl
theorem cs_block {w : World} {b : Nat} {cs : Array Value} {t : TypeId} (h : w.heap[b]? = some (.cells cs t (0, 0))) (n : Nat) (f : Nat → Value) (hf : ∀ j, j < n → cs[j]? = some (f j)) : Cs w b n f :=
  ⟨fun j hj => (cell_of_row w b j _ _ _ h).trans (hf j hj), fun j => frozen_of_row w b j _ _ h⟩
theorem cs_own {w : World} {B g cap : Nat} {e : TypeId} {size : Nat} {xs : List Value} (h : w.ownsRow B e size (.slice (some ⟨g, 0, none⟩) 1 cap) 1 xs) (f : Nat → Value) (hf : ∀ j, j < size → xs[j]? = some (f j)) : Cs w g size f := by
  rcases h.2 with ⟨h1, _⟩ | ⟨g', cap', cur, h1, _, h2, _, _, _, h3⟩
  · cases h1
  · simp only [Value.slice.injEq, Option.some.injEq, Addr.mk.injEq] at h1
    obtain ⟨⟨rfl, _⟩, _, _⟩ := h1
    refine cs_block h2 size f fun j hj => ?_
    have := hf j hj
    rw [← h3, List.getElem?_take, if_pos (by omega)] at this
    simpa using this
/-- A new bench. -/
def tb0 (n : Int) : TB := ⟨n, 0, [], [], (0, 0, 0), 0, 0, 0, 0⟩

theorem new_ben {w w2 w3 w5 : World} {b g h c1 : Nat} {f : Value} {l : List SD} {n : Int} {X : Nat → Prop} (hU : Up w w2) (hB : BankM w2 w.heap.size h l bs0 0 X) (hU3 : Up w2 w3) (hs : w3.heap.size = b + 1) (hb : w2.heap.size = b) (hblk : w3.heap[b]? = some (.cells #[.pointer (some ⟨h, 0, none⟩), .slice none 0 0, f, .slice none 0 0, .int .i64 0, .int .i64 0, .slice none 0 0] 53 (0, 0)))
    (ho : w5.ownsRow w.heap.size 57 9 (.slice (some ⟨g, 0, none⟩) 1 c1) 1 [.int .i64 n, .int .i64 0, .slice none 0 0, .slice none 0 0, .int .i64 0, .int .i64 0, .int .i64 0, .int .i64 0, .int .i64 0]) (hg : w3.grownBy w5 none) (hge : w3.heap.size ≤ g) :
    w5.cell? ⟨b, 1, none⟩ = some (.slice none 0 0) ∧ w5.frozen? ⟨b, 1, none⟩ = false ∧ Ben w (w5.setCell ⟨b, 1, none⟩ (.slice (some ⟨g, 0, none⟩) 1 c1)) b g h c1 f l (tb0 n) bs0 0 (.slice none 0 0) (.slice none 0 0) (.slice none 0 0) X := by
  have hU5 : Up w3 w5 := grownBy_below hg (Nat.le_refl _) (fun k e => by cases e)
  have hb5 := (hU5.block b (by omega)).trans hblk
  have hwb : w.heap.size ≤ b := by rw [← hb]; exact hU.size
  have hUU : Up w w5 := (hU.trans hU3).trans hU5
  have hk : ∀ k, k ≠ b → (w5.setCell ⟨b, 1, none⟩ (.slice (some ⟨g, 0, none⟩) 1 c1)).heap[k]? = w5.heap[k]? := fun k hne => Below.heap_setCell w5 ⟨b, 1, none⟩ _ k hne
  have hX : ∀ k, X k → k < b := fun k hx => by rw [← hb]; exact (hB.lt k hx).2
  have hcb : Cs w5 b 7 (fun j => (#[Value.pointer (some ⟨h, 0, none⟩), .slice none 0 0, f, .slice none 0 0, .int .i64 0, .int .i64 0, .slice none 0 0] : Array Value).getD j undef) := cs_block hb5 7 _ (fun j hj => by match j, hj with | 0, _ | 1, _ | 2, _ | 3, _ | 4, _ | 5, _ | 6, _ => rfl)
  refine ⟨hcb.cell 1 (by decide), hcb.fz 1, hUU.setCell (p := ⟨b, 1, none⟩) hwb _, hcb.set (by decide) _ (fun i hi => by match i, hi with | 0, _ | 1, _ | 2, _ | 3, _ | 4, _ | 5, _ | 6, _ => rfl), (cs_own ho _ (fun j hj => by match j, hj with | 0, _ | 1, _ | 2, _ | 3, _ | 4, _ | 5, _ | 6, _ | 7, _ | 8, _ => rfl)).keep (hk g (by omega)),
    ⟨[], own_nil _ _ _ _, fun u hu => (by cases hu)⟩, own_nil _ _ _ _, own_nil _ _ _ _, ⟨hwb, by omega⟩, by omega, ⟨fun hx => by have := hX b hx; omega, fun hx => by have := hX g hx; omega⟩, fun k e => by simp [Value.ownBlock] at e, fun k e => by simp [Value.ownBlock] at e, fun k e => by simp [Value.ownBlock] at e, hB.keep (by simp; exact Nat.le_trans hU3.size hU5.size) fun k hx => ?_⟩
  have hlt := hX k hx
  exact (hk k (by omega)).trans ((hU5.block k (by omega)).trans (hU3.block k (by rw [hb]; exact hlt)))

set_option maxRecDepth 10000 in
set_option maxHeartbeats 4000000 in
theorem newB_ok (l : List SD) (A : Option Addr) (c : Nat) (mb : Nat) (cm : Nat) (n : Int) (F : Nat) (cap : Array Value) (w : World) (hl : l.length ≤ 1000) (hr : StripRow w A l) (h0 : (countP l).2 = 0) (hm : w.cell? ⟨mb, 0, none⟩ = some (.int .i64 n)) (hn : 0 ≤ n) (hn1 : n ≤ 100) :
    Calls Try.prog 12 #[.slice A l.length c, .slice (some ⟨mb, 0, none⟩) 1 cm, .func (.func F) #[] cap, .slice none 0 0] w fun e w' => ∃ b g h c1 X, e = .returned (.tuple #[.pointer (some ⟨b, 0, none⟩), .int .i64 0]) ∧ Ben w w' b g h c1 (.func (.func F) #[] cap) l (tb0 n) bs0 0 (.slice none 0 0) (.slice none 0 0) (.slice none 0 0) X := by
  have hneq : ∀ W : World, (binOp .eql 46 (.func (.func F) #[] cap) .nilFunc).run Try.prog W = .ok (.bool false) W := fun _ => by kernel_rfl
  have HC := Lib.hid (newM_any l A c w hl hr)
  have H0 := Lib.hid h0
  clear hl hr h0
  go_enter Try.func12, Try.ntmps12
  go_wp2_with fail
  refine HC.out.mono ?_
  intro e w1 h1
  unfold NewM at h1
  rw [if_neg (by rw [H0.out]; simp)] at h1
  obtain ⟨h, X, rfl, hbk, hu⟩ := h1
  have HU := Lib.hid hu
  have HB := Lib.hid hbk
  have hm1 := (hu.cell (cell_lt hm)).trans hm
  have hlm := cell_lt hm1
  clear hu HC hbk hm
  go_wp2_with fail
  refine (cloneI_nil w1).mono ?_
  rintro e w2 ⟨rfl, rfl⟩
  go_wp2_with fail
  have hblk := heap_alloc_new w2 (.cells #[.pointer (some ⟨h, 0, none⟩), .slice none 0 0, .func (.func F) #[] cap, .slice none 0 0, .int .i64 0, .int .i64 0, .slice none 0 0] 53)
  have hu3 : Up w2 (w2.alloc (.cells #[.pointer (some ⟨h, 0, none⟩), .slice none 0 0, .func (.func F) #[] cap, .slice none 0 0, .int .i64 0, .int .i64 0, .slice none 0 0] 53)) := (Up.refl w2).alloc _
  have hsz : (w2.alloc (.cells #[.pointer (some ⟨h, 0, none⟩), .slice none 0 0, .func (.func F) #[] cap, .slice none 0 0, .int .i64 0, .int .i64 0, .slice none 0 0] 53)).heap.size = w2.heap.size + 1 := by simp
  obtain ⟨W3, hW3⟩ : ∃ x, w2.alloc (.cells #[.pointer (some ⟨h, 0, none⟩), .slice none 0 0, .func (.func F) #[] cap, .slice none 0 0, .int .i64 0, .int .i64 0, .slice none 0 0] 53) = x := ⟨_, rfl⟩
  obtain ⟨b, hb⟩ : ∃ b, w2.heap.size = b := ⟨_, rfl⟩
  rw [hW3] at hblk hu3 hsz ⊢
  rw [hb] at hblk hsz hlm ⊢
  have HBL := Lib.hid hblk
  have HU3 := Lib.hid hu3
  have HSZ := Lib.hid (And.intro hsz hb)
  have hm3 := (hu3.cell (cell_lt hm1)).trans hm1
  clear hW3 hb hblk hu3 hsz hm1 hlm
  go_loopw [41] (fun iv wr => (iv = .int .i64 0 ∧ wr = W3) ∨ (iv = .int .i64 1 ∧ Hid (∃ g c1, Ben w wr b g h c1 (.func (.func F) #[] cap) l (tb0 n) bs0 0 (.slice none 0 0) (.slice none 0 0) (.slice none 0 0) X))) (fun t _ => (1 - intOf t).toNat)
  case atStart => exact .inl ⟨rfl, rfl⟩
  case round =>
    rcases hrel with ⟨rfl, rfl⟩ | ⟨rfl, HN⟩
    · have hb1 : wr.cell? ⟨b, 1, none⟩ = some (.slice none 0 0) := cell_of_row wr b 1 _ _ _ HBL.out
      have hmax : max n 0 = n := by omega
      obtain ⟨i0, hi', hz0, hz1, hz2⟩ := info_parts infoTh
      have HIE := Lib.hid hi'
      have HZ0 := Lib.hid hz0
      have HZ1 := Lib.hid hz1
      have HZ2 := Lib.hid hz2
      have HWS := Lib.hid (show w.heap.size ≤ wr.heap.size from Nat.le_trans HU.out.size HU3.out.size)
      clear hi' hz0 hz1 hz2
      go_wp2_with (at_builtin; refine wpList_push3 (news := [.int .i64 n, .int .i64 0, .slice none 0 0, .slice none 0 0, .int .i64 0, .int .i64 0, .int .i64 0, .int .i64 0, .int .i64 0]) rfl (.tmp 49) (.tmp 53) 51 rfl w.heap.size i0 (.agg #[.int .i64 0, .int .i64 0, .slice none 0 0, .slice none 0 0, .int .i64 0, .int .i64 0, .int .i64 0, .int .i64 0, .int .i64 0]) 9 104 Try.underlying51 HIE.out HZ0.out HZ1.out HZ2.out rfl (by decide) _ 0 [] rfl (own_nil _ _ _ _) rfl rfl (by simp [Value.oneCell']) (by decide) (by decide) HWS.out ?_; intro g c1 w5 hown5 hg5 hor5 hlt5 hbel5; have HB6 := Lib.hid (new_ben HU.out HB.out HU3.out HSZ.out.1 HSZ.out.2 HBL.out hown5 hg5 (hor5.resolve_left (fun h => by cases h))); have c15 := HB6.out.1; have f15 := HB6.out.2.1; clear hown5 hg5 hor5 hlt5 hbel5)
      clear hb1 c15 f15
      go_roundw
      case rel => exact .inr ⟨by first | rfl | go_num, Lib.hid ⟨g, c1, HB6.out.2.2⟩⟩
      case measure => simp [intOf]
    · obtain ⟨g, c1, hN⟩ := HN.out
      have HN2 := Lib.hid hN
      clear HN hN
      go_wp2_with fail
      go_ret2
      exact ⟨b, g, h, c1, X, rfl, HN2.out⟩

end Go.Proofs.Ytedkgamecdmjdaa

/-
  Package bench: the chapter's example.
-/
namespace Go.Proofs.Ytedkgamecdmjdaa
open Go.RowKit

theorem strip_row (w : World) (l : List SD) (cs : List Value) (t : TypeId) (h : ∀ k, k < l.length → cs[k * 3]? = some (.int .i64 (l.getD k sd0).many) ∧ cs[k * 3 + 1]? = some (.int .i64 (l.getD k sd0).kind) ∧ cs[k * 3 + 2]? = some (.int .i64 (l.getD k sd0).top)) :
    StripRow (w.alloc (.cells cs.toArray t)) (some ⟨w.heap.size, 0, none⟩) l := fun k hk => by
  obtain ⟨h0, h1, h2⟩ := h k hk
  have c : ∀ j, (w.alloc (.cells cs.toArray t)).cell? ⟨w.heap.size, j, none⟩ = cs[j]? := fun j => by rw [World.cell?_alloc_at _ _ _ _ rfl]; simp
  exact ⟨w.heap.size, 0, rfl, by rw [c, Nat.zero_add]; exact h0, by rw [c, Nat.zero_add]; exact h1, by rw [c, Nat.zero_add]; exact h2⟩


/-- What the example does: it reads a cell, and 5 more. -/
def aliveP (s : TS) : Option Int × TS := match tAsk (1, 0, 0) s with
  | (some x, s') => (some (wrap64 (x + 5)), s')
  | (none, s') => (none, s')
theorem acl_any (g B : Nat) (k : Int) (s : TS) (w : World) (h : Tape1 w g B s) :
    Calls Try.prog 22 #[.pointer (some ⟨g, 0, none⟩), .int .i64 0, .int .i64 k] w (TPost encI g B w (aliveP s)) := by
  have HR := Lib.hid (read_any g B 0 s w h)
  have HE := Lib.hid (show aliveP s = match tAsk (1, 0, 0) s with
    | (some x, s') => (some (wrap64 (x + 5)), s')
    | (none, s') => (none, s') from rfl)
  obtain ⟨r, hr⟩ : ∃ r, tAsk (1, 0, 0) s = r := ⟨_, rfl⟩
  obtain ⟨q, hq⟩ : ∃ q, aliveP s = q := ⟨_, rfl⟩
  rw [hr] at HR HE
  rw [hq] at HE ⊢
  clear hr hq h
  go_enter Try.func22, Try.ntmps22
  go_wp2_with fail
  refine HR.out.mono ?_
  intro e w' hT
  obtain ⟨ro, s'⟩ := r
  cases ro with
  | none =>
    obtain ⟨rfl, hT1, hT2⟩ := TPost.of_none rfl hT
    have H := Lib.hid (And.intro hT1 hT2)
    have HE2 := Lib.hid HE.out
    clear hT hT1 hT2 HR
    go_wp2_with fail
    exact ⟨rfl, TPost.none HE2.out ⟨rfl, H.out.1, H.out.2⟩⟩
  | some v =>
    obtain ⟨rfl, hT1, hT2⟩ := TPost.of_some rfl hT
    have H := Lib.hid (And.intro hT1 hT2)
    have HE2 := Lib.hid HE.out
    clear hT hT1 hT2 HR HE
    unfold encI
    go_wp2_with fail
    go_ret
    exact TPost.some HE2.out ⟨rfl, H.out.1, H.out.2⟩

def exB : List SD := [⟨1, 1, 9⟩]
def eb1 : BS := (bs0.begin 1 6 (mkP exB) 0 1 0 0).2
theorem eb1_told : (eb1.endA (mkP exB) 0 0).1 = 0 := by decide
theorem alive_told : aliveP ⟨[] ++ [(eb1.endA (mkP exB) 0 0).1], [], [], []⟩ = (some 5, ⟨[0], [], [(1, 0, 0)], []⟩) := by
  rw [eb1_told]
  have h5 : wrap64 5 = 5 := IntWalk.wrap64_in _ (by omega)
  simp [aliveP, tAsk, TS.told, TS.asked, h5]
def eb2 : BS := (eb1.endA (mkP exB) 0 0).2.2

set_option maxRecDepth 10000 in
set_option maxHeartbeats 4000000 in
theorem alive50_any (w : World) : Calls Try.prog 10 #[] w fun e w' => e = .returned (.bool true) ∧ Up w w' := by
  have hcf : ∀ (args : Array Value) (W : World), (callFunc 22 args).run Try.prog W = .ok (.enter 22 args) W := fun args W => enters Try.func22 (by kernel_rfl) rfl args W
  have hr0 := strip_row w exB [.int .i64 1, .int .i64 1, .int .i64 9] 41 (fun k hk => by
    match k, hk with
    | 0, _ => exact ⟨rfl, rfl, rfl⟩)
  have hu0 : Up w (w.alloc (.cells #[.int .i64 1, .int .i64 1, .int .i64 9] 41)) := (Up.refl w).alloc _
  have hu1 : Up (w.alloc (.cells #[.int .i64 1, .int .i64 1, .int .i64 9] 41)) ((w.alloc (.cells #[.int .i64 1, .int .i64 1, .int .i64 9] 41)).alloc (.cells #[.int .i64 1] 3)) := (Up.refl _).alloc _
  have hm0 : ((w.alloc (.cells #[.int .i64 1, .int .i64 1, .int .i64 9] 41)).alloc (.cells #[.int .i64 1] 3)).cell? ⟨w.heap.size + 1, 0, none⟩ = some (.int .i64 1) := by
    have := cell_of_row _ _ 0 _ _ _ (heap_alloc_new (w.alloc (.cells #[.int .i64 1, .int .i64 1, .int .i64 9] 41)) (.cells #[.int .i64 1] 3))
    rw [World.size_alloc] at this
    exact this
  obtain ⟨W0, hW0⟩ : ∃ x, (w.alloc (.cells #[.int .i64 1, .int .i64 1, .int .i64 9] 41)).alloc (.cells #[.int .i64 1] 3) = x := ⟨_, rfl⟩
  have HU0 := Lib.hid (show Up w W0 from hW0 ▸ hu0.trans hu1)
  have hr1 : StripRow W0 (some ⟨w.heap.size, 0, none⟩) exB := hW0 ▸ hr0.up hu1
  rw [hW0] at hm0
  have HNW := Lib.hid (newB_ok exB (some ⟨w.heap.size, 0, none⟩) 1 (w.heap.size + 1) 1 1 22 #[] W0 (by decide) hr1 (by decide) hm0 (by decide) (by decide))
  have HP1 := Lib.hid (fun (W : World) (b g h c1 : Nat) (X : Nat → Prop) (H : Ben W0 W b g h c1 (.func (.func 22) #[] #[]) exB (tb0 1) bs0 0 (.slice none 0 0) (.slice none 0 0) (.slice none 0 0) X) =>
    pick_idle (p := aliveP) H rfl (by decide) ⟨by decide, by decide, by decide⟩ (by decide) hcf (fun W' g' B _ _ hT => acl_any g' B _ _ W' hT) (by decide) (by decide) (by decide) (by decide) (none, ⟨[], [], [(1, 0, 0)], []⟩) rfl (by decide) (by decide) (fun _ => by decide) (by decide) (fun _ => by decide))
  have HP2 := Lib.hid (fun (W : World) (b g h c1 : Nat) (X : Nat → Prop) (H : Ben W0 W b g h c1 (.func (.func 22) #[] #[]) exB ⟨1, 0, [], [], (1, 0, 0), 2, 0, 1, 0⟩ eb1 9 (.slice none 0 0) (.slice none 0 0) (.slice none 0 0) X) =>
    pick_begun (p := aliveP) H rfl (by decide) (mkP exB) (by decide) (by decide) hcf (fun W' g' B _ _ hT => acl_any g' B _ _ W' hT) (by decide) (by decide) (by decide) (some 5, ⟨[0], [], [(1, 0, 0)], []⟩) alive_told (by decide) (by decide) (fun h => by cases h) (by decide))
  have HF := Lib.hid (fun (W : World) => newB_few [] none 0 .nilFunc W (by decide) (fun k hk => absurd hk (Nat.not_lt_zero k)) (by decide))
  have HNL := Lib.hid (fun (W : World) (M : Option Addr) => newB_nil [] none 0 M 1 W (by decide) (fun k hk => absurd hk (Nat.not_lt_zero k)) (by decide))
  have heq : ∀ W : World, (binOp .eql 61 (.agg #[.int .i64 2, .int .i64 2, .int .i64 0, .int .i64 0, .int .i64 0, .int .i64 0, .int .i64 5]) (.agg #[.int .i64 2, .int .i64 2, .int .i64 0, .int .i64 0, .int .i64 0, .int .i64 0, .int .i64 5])).run Try.prog W = .ok (.bool true) W := fun _ => by kernel_rfl
  clear hr0 hu0 hu1 hm0 hr1 hcf
  go_enter Try.func10, Try.ntmps10
  go_wp2_with fail
  clear hW0
  refine HNW.out.mono ?_
  rintro e w1 ⟨b, g, h, c1, X, rfl, h1⟩
  have H1 := Lib.hid (HP1.out w1 b g h c1 X h1)
  clear h1 HNW HP1
  go_wp2_with fail
  refine H1.out.mono ?_
  intro e w2 h2
  obtain ⟨A, c, X2, rfl, h2⟩ := h2
  have hn1 : wrap64 ((tb0 1).now + 1) = 1 := IntWalk.wrap64_in 1 (by omega)
  rw [hn1] at h2
  have H2 := Lib.hid (HP2.out w2 b g h c1 X2 h2)
  clear h2 H1 HP2
  go_wp2_with fail
  refine H2.out.mono ?_
  rintro e w3 ⟨w2', vm', va', X', h3⟩
  obtain ⟨-, v, xs, rfl, h4, -, vl', h5⟩ := h3
  dsimp only at h4 h5
  have hxs : xs = [] := List.eq_nil_of_length_eq_zero (by have := h4.1; simpa using this)
  subst hxs
  have hn2 : wrap64 (1 + 1) = 2 := IntWalk.wrap64_in _ (by omega)
  rw [hn2] at h4 h5
  obtain ⟨yA, yc, rfl, _, _⟩ := own_form h4
  have hyb : ∃ yg, yA = some ⟨yg, 0, none⟩ := by
    rcases h4.2 with ⟨h6, _⟩ | ⟨g', cap', cur, h6, _⟩
    · cases h6
    · simp only [Value.slice.injEq] at h6; exact ⟨g', h6.1⟩
  obtain ⟨yg, rfl⟩ := hyb
  have HY := Lib.hid (cs_own (f := fun j => [Value.int .i64 2, .int .i64 2, .int .i64 0, .int .i64 0, .int .i64 0, .int .i64 0, .int .i64 5].getD j undef) h4 (fun j hj => by match j, hj with | 0, _ | 1, _ | 2, _ | 3, _ | 4, _ | 5, _ | 6, _ => rfl))
  have HB3 := Lib.hid h5
  clear h4 h5 H2
  go_wp2_with fail
  refine (HF.out w3).mono ?_
  rintro e w4 ⟨rfl, hu4⟩
  have HU4 := Lib.hid hu4
  clear hu4 HF
  go_wp2_with fail
  refine (HNL.out _ _).mono ?_
  rintro e w5 ⟨rfl, hu5⟩
  have HU5 := Lib.hid (HU4.out.trans (((Up.refl w4).alloc _).trans hu5))
  have HB5 := Lib.hid (HB3.out.grow HU5.out)
  have y0 := (HU5.out.cell (cell_lt (HY.out.cell 0 (by decide)))).trans (HY.out.cell 0 (by decide))
  have y1 := (HU5.out.cell (cell_lt (HY.out.cell 1 (by decide)))).trans (HY.out.cell 1 (by decide))
  have y2 := (HU5.out.cell (cell_lt (HY.out.cell 2 (by decide)))).trans (HY.out.cell 2 (by decide))
  have y3 := (HU5.out.cell (cell_lt (HY.out.cell 3 (by decide)))).trans (HY.out.cell 3 (by decide))
  have y4 := (HU5.out.cell (cell_lt (HY.out.cell 4 (by decide)))).trans (HY.out.cell 4 (by decide))
  have y5 := (HU5.out.cell (cell_lt (HY.out.cell 5 (by decide)))).trans (HY.out.cell 5 (by decide))
  have y6 := (HU5.out.cell (cell_lt (HY.out.cell 6 (by decide)))).trans (HY.out.cell 6 (by decide))
  simp only [List.getD_cons_zero, List.getD_cons_succ] at y0 y1 y2 y3 y4 y5 y6
  clear hu5 HNL HU4
  have hnx : wrap64 (0 + 1) = 1 := IntWalk.wrap64_in _ (by omega)
  have hb5 := HB5.out
  rw [hnx] at hb5
  have HB6 := Lib.hid hb5
  clear hb5 HB5
  go_wp2_with fail
  refine (over_any b g c1 0 1 1 w5 (HB6.out.cb.cell 1 (by decide)) (HB6.out.cg.cell 0 (by decide)) (HB6.out.cg.cell 1 (by decide)) (HB6.out.cg.cell 7 (by decide))).mono ?_
  rintro e w6 ⟨rfl, hu6⟩
  have HB7 := Lib.hid (HB6.out.grow hu6)
  have hov : overB 0 1 1 = true := by decide
  rw [hov]
  clear hu6 hov y0 y1 y2 y3 y4 y5 y6
  go_wp2_with fail
  refine (over_no b g c1 1 w6 (by decide) (HB7.out.cb.cell 1 (by decide))).mono ?_
  rintro e w7 ⟨rfl, hu7⟩
  have HB8 := Lib.hid (HB7.out.grow hu7)
  clear hu7
  go_wp2_with fail
  refine (marks_any HB8.out (by decide)).mono ?_
  rintro e w8 ⟨⟨Am, cm, rfl⟩, hu8⟩
  have HB9 := Lib.hid (HB8.out.grow hu8)
  clear hu8
  dsimp only
  go_wp2_with fail
  refine (now_any b 2 w8 (HB9.out.cb.cell 5 (by decide))).mono ?_
  rintro e w9 ⟨rfl, hu9⟩
  have HU9 := Lib.hid (HU0.out.trans (HB9.out.up.trans hu9))
  clear hu9
  go_wp2_with fail
  go_ret
  exact ⟨rfl, HU9.out⟩

end Go.Proofs.Ytedkgamecdmjdaa
