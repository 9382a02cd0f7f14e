/-
  Package bench: Pick of a thread that begins an operation, and of one that has asked.
-/
import Derived.Test.YtedkgamecdmjdaaBenG
set_option linter.unusedVariables false
set_option linter.unusedSimpArgs false
namespace Go.Proofs.Ytedkgamecdmjdaa
open Go.RowKit

/-- What grows is a row of events that the bench does not hold. -/
theorem Ben.offEv {w0 w w' : World} {b g h c1 zb : Nat} {f : Value} {l : List SD} {s : TB} {u : BS} {N : Nat} {vm va vl : Value} {X : Nat → Prop} {n : Nat} {v : Value} {xs : List Value} (H : Ben w0 w b g h c1 f l s u N vm va vl X)
    (hz : w.ownsRow zb 61 7 v n xs) (hv : v.ownBlock = some zb) (hb : b ≠ zb) (hg : g ≠ zb) (hX : ¬ X zb) (G : w.grownBy w' v.ownBlock) (hw : w0.heap.size ≤ zb) : Ben w0 w' b g h c1 f l s u N vm va vl X := by
  have hk : ∀ k, k < w.heap.size → k ≠ zb → w'.heap[k]? = w.heap[k]? := fun k hk hne => G.block k hk (fun e => by rw [hv] at e; exact hne (Option.some.inj e))
  have hty : ∃ cur, w.heap[zb]? = some (.cells cur 61 (0, 0)) := by
    rcases hz.2 with ⟨rfl, _⟩ | ⟨g', cap, cur, rfl, _, h2, _⟩
    · simp [Value.ownBlock] at hv
    · simp only [Value.ownBlock, Option.some.injEq] at hv
      subst hv
      exact ⟨cur, h2⟩
  obtain ⟨cur, hcur⟩ := hty
  have hno : ∀ {e size n : Nat} {v2 : Value} {ys : List Value} {B : Nat}, w.ownsRow B e size v2 n ys → e ≠ 61 → v2.ownBlock ≠ some zb := fun {e size n v2 ys B} ho hne hq => by
    rcases ho.2 with ⟨rfl, _⟩ | ⟨g', cap, cur', rfl, _, h2, _⟩
    · simp [Value.ownBlock] at hq
    · simp only [Value.ownBlock, Option.some.injEq] at hq
      subst hq
      rw [hcur] at h2
      simp only [Option.some.injEq, Obj.cells.injEq] at h2
      exact hne h2.2.1.symm
  refine H.keep (Below.trans H.up (grownBy_below G H.sz (fun k e => by rw [hv] at e; have := Option.some.inj e; omega))) G.size fun k hlt hkk => hk k hlt ?_
  rcases hkk with rfl | rfl | e | e | e | e
  · exact hb
  · exact hg
  · rintro rfl
    obtain ⟨ys, hy, _⟩ := H.rm
    exact hno hy (by decide) e
  · rintro rfl; exact hno H.ra (by decide) e
  · rintro rfl; exact hno H.rl (by decide) e
  · rintro rfl; exact hX e

/-- What a pick leaves that begins an operation. -/
def IdlePost (w0 : World) (b g h c1 : Nat) (f : Value) (l : List SD) (s : TB) (u : BS) (N : Nat) (vm va vl : Value) (X : Nat → Prop) (ro : Option Int) (s' : TS) (e : Ending) (w' : World) : Prop :=
  match ro with
      | none => ∃ A c X', e = .returned (.slice A (1 + ((s'.nts.length : Int) - s.nts).toNat) c) ∧ Ben w0 w' b g h c1 f l { s with now := wrap64 (s.now + 1), nts := s'.nts.length, acc := s'.acc.getD (s'.acc.length - 1) (0, 0, 0), st := 2 }
          (u.begin (cntK l l.length) 6 (mkP l) 0 (s'.acc.getD (s'.acc.length - 1) (0, 0, 0)).1 (s'.acc.getD (s'.acc.length - 1) (0, 0, 0)).2.1 (s'.acc.getD (s'.acc.length - 1) (0, 0, 0)).2.2).2 (N + 9) vm va vl X'
      | some _ => ∃ v vl', e = .returned v ∧ Ben w0 w' b g h c1 f l { s with now := wrap64 (s.now + 1), loc := shortL s'.loc, ans := [], nts := 0, st := 0, next := wrap64 (s.next + 1) } u N vm (.slice none 0 0) vl' X

section
variable {w0 w : World} {b g h c1 : Nat} {F : Nat} {cap : Array Value} {p : TS → Option Int × TS} {l : List SD} {s : TB} {u : BS} {N : Nat} {vm va vl : Value} {X : Nat → Prop}

set_option maxRecDepth 10000 in
set_option maxHeartbeats 2000000 in
/-- A pick of a thread that has asked for an access. -/
theorem pick_asked {f : Value} (H : Ben w0 w b g h c1 f l s u N vm va vl X) (hst : s.st = 1) (hfit : Fit l) (hN : N ≤ 900)
    (hok : (u.begin (cntK l l.length) 6 (mkP l) 0 s.acc.1 s.acc.2.1 s.acc.2.2).1 = 0) :
    Calls Try.prog 5 #[.pointer (some ⟨b, 0, none⟩), .int .i64 0] w fun e w' => e = .returned (.slice none 0 0) ∧ ∃ X', Ben w0 w' b g h c1 f l { s with now := wrap64 (s.now + 1), st := 2 } (u.begin (cntK l l.length) 6 (mkP l) 0 s.acc.1 s.acc.2.1 s.acc.2.2).2 (N + 9) vm va vl X' := by
  have hat := at_any b g c1 0 w (H.cb.cell 1 (by decide))
  rw [if_pos rfl] at hat
  have HAT := Lib.hid hat
  have b5 : w.cell? ⟨b, 5, none⟩ = some (.int .i64 s.now) := H.cb.cell 5 (by decide)
  have f5 := H.cb.fz 5
  have HN := Lib.hid (H.setNow (wrap64 (s.now + 1)))
  have hto := tover_any g s.st s.next s.many _ (HN.out.cg.cell 0 (by decide)) (HN.out.cg.cell 1 (by decide)) (HN.out.cg.cell 7 (by decide))
  have hov : overB s.st s.next s.many = false := by unfold overB; rw [hst]; rfl
  rw [hov] at hto
  have HTO := Lib.hid hto
  have HST := Lib.hid hst
  have HBG := Lib.hid (fun (W : World) (H2 : Ben w0 W b g h c1 f l { s with now := wrap64 (s.now + 1) } u N vm va vl X) => bbegin_any H2 hfit hN hok)
  clear hat hto H hov hst hok hfit hN
  go_enter Try.func5, Try.ntmps5
  go_wp2_with fail
  refine HAT.out.mono ?_
  rintro e w1 ⟨rfl, rfl⟩
  go_wp2_with fail
  refine HTO.out.mono ?_
  rintro e w2 ⟨rfl, hu⟩
  have HN2 := Lib.hid (HN.out.grow hu)
  clear hu b5 f5 HTO HN HAT
  have g7 : w2.cell? ⟨g, 7, none⟩ = some (.int .i64 1) := by have h := HN2.out.cg.cell 7 (by decide); rw [← HST.out]; exact h
  go_wp2_with fail
  refine (HBG.out w2 HN2.out).mono ?_
  rintro e w3 ⟨rfl, X', h3⟩
  have H3 := Lib.hid h3
  clear h3 g7 HBG
  go_wp2_with fail
  go_ret
  exact ⟨rfl, X', H3.out⟩

set_option maxRecDepth 10000 in
set_option maxHeartbeats 4000000 in
/-- A pick of a thread that begins an operation. -/
theorem pick_idle (H : Ben w0 w b g h c1 (.func (.func F) #[] cap) l s u N vm va vl X) (hst : s.st = 0) (hov : s.next < s.many) (hfit : Fit l) (hN : N ≤ 900)
    (hcf : ∀ (args : Array Value) (W : World), (callFunc F args).run Try.prog W = .ok (.enter F args) W)
    (hdo : ∀ (W : World) (g' B : Nat), Up w0 W → w0.heap.size ≤ g' → Tape1 W g' B ⟨s.ans, s.loc, [], []⟩ → Calls Try.prog F (#[.pointer (some ⟨g', 0, none⟩), .int .i64 0, .int .i64 s.next] ++ cap) W (TPost encI g' B W (p ⟨s.ans, s.loc, [], []⟩)))
    (hl0 : s.loc.length ≤ 32768) (hl1 : s.ans.length ≤ 3000) (hn0 : 0 ≤ s.nts) (hn1 : s.nts ≤ 1000) (r : Option Int × TS) (hr : p ⟨s.ans, s.loc, [], []⟩ = r) (hn : r.2.nts.length ≤ 1000) (ha : r.2.acc.length ≤ 1000) (hac : r.1 = none → 1 ≤ r.2.acc.length) (hll : (shortL r.2.loc).length ≤ 1000000)
    (hok : r.1 = none → (u.begin (cntK l l.length) 6 (mkP l) 0 (r.2.acc.getD (r.2.acc.length - 1) (0, 0, 0)).1 (r.2.acc.getD (r.2.acc.length - 1) (0, 0, 0)).2.1 (r.2.acc.getD (r.2.acc.length - 1) (0, 0, 0)).2.2).1 = 0) :
    Calls Try.prog 5 #[.pointer (some ⟨b, 0, none⟩), .int .i64 0] w (IdlePost w0 b g h c1 (.func (.func F) #[] cap) l s u N vm va vl X r.1 r.2) := by
  have hat := at_any b g c1 0 w (H.cb.cell 1 (by decide))
  rw [if_pos rfl] at hat
  have HAT := Lib.hid hat
  have b5 : w.cell? ⟨b, 5, none⟩ = some (.int .i64 s.now) := H.cb.cell 5 (by decide)
  have f5 := H.cb.fz 5
  have HN := Lib.hid (H.setNow (wrap64 (s.now + 1)))
  have hto := tover_any g s.st s.next s.many _ (HN.out.cg.cell 0 (by decide)) (HN.out.cg.cell 1 (by decide)) (HN.out.cg.cell 7 (by decide))
  have hov : overB s.st s.next s.many = false := by unfold overB; rw [hst]; simp; omega
  rw [hov] at hto
  have HTO := Lib.hid hto
  have HST := Lib.hid hst
  have HBG := Lib.hid (fun (ac : Int × Int × Int) (hk : (u.begin (cntK l l.length) 6 (mkP l) 0 ac.1 ac.2.1 ac.2.2).1 = 0) (W : World) (n : Int) (H2 : Ben w0 W b g h c1 (.func (.func F) #[] cap) l { s with now := wrap64 (s.now + 1), nts := n, acc := ac, st := 1 } u N vm va vl X) => bbegin_any H2 hfit hN hk)
  have HPL := Lib.hid (fun (W : World) (H2 : Ben w0 W b g h c1 (.func (.func F) #[] cap) l { s with now := wrap64 (s.now + 1) } u N vm va vl X) => play_any (p := p) H2 hcf hdo hl0 hl1 hn0 hn1 r hr hn ha hac hll)
  obtain ⟨ro, s'⟩ := r
  dsimp only at hn hok HPL ⊢
  have HOK := Lib.hid hok
  have HNN := Lib.hid (show ((s'.nts.length : Int) - s.nts).toNat ≤ 1000 by omega)
  clear hat hto H hov hst hdo hcf hr hn ha hac hll hl0 hn0 hn1 hN hok hl1 hfit
  go_enter Try.func5, Try.ntmps5
  go_wp2_with fail
  refine HAT.out.mono ?_
  rintro e w1 ⟨rfl, rfl⟩
  go_wp2_with fail
  refine HTO.out.mono ?_
  rintro e w2 ⟨rfl, hu⟩
  have HN2 := Lib.hid (HN.out.grow hu)
  clear hu b5 f5 HTO HN HAT
  have g7 : w2.cell? ⟨g, 7, none⟩ = some (.int .i64 0) := by have h := HN2.out.cg.cell 7 (by decide); rw [← HST.out]; exact h
  go_wp2_with fail
  clear g7
  have hS : w2.drew.cell? ⟨b, 5, none⟩ = some (.int .i64 (wrap64 (s.now + 1))) ∧ w2.drew.cell? ⟨g, 1, none⟩ = some (.int .i64 s.next) := ⟨HN2.out.cb.cell 5 (by decide), HN2.out.cg.cell 1 (by decide)⟩
  have hu3 : Up w2 (w2.alloc (.cells #[.int .i64 (wrap64 (s.now + 1)), .int .i64 1, .int .i64 0, .int .i64 s.next, .int .i64 0, .int .i64 0, .int .i64 0] 61)).drew := ((Up.refl w2).alloc _).drew
  have HN3 := Lib.hid (HN2.out.grow hu3)
  have hS3 : (w2.alloc (.cells #[.int .i64 (wrap64 (s.now + 1)), .int .i64 1, .int .i64 0, .int .i64 s.next, .int .i64 0, .int .i64 0, .int .i64 0] 61)).drew.cell? ⟨b, 5, none⟩ = some (.int .i64 (wrap64 (s.now + 1))) ∧ (w2.alloc (.cells #[.int .i64 (wrap64 (s.now + 1)), .int .i64 1, .int .i64 0, .int .i64 s.next, .int .i64 0, .int .i64 0, .int .i64 0] 61)).drew.cell? ⟨g, 1, none⟩ = some (.int .i64 s.next) := ⟨HN3.out.cb.cell 5 (by decide), HN3.out.cg.cell 1 (by decide)⟩
  have HR3 := Lib.hid (show (w2.alloc (.cells #[.int .i64 (wrap64 (s.now + 1)), .int .i64 1, .int .i64 0, .int .i64 s.next, .int .i64 0, .int .i64 0, .int .i64 0] 61)).drew.ownsRow w2.heap.size 61 7 (.slice (some ⟨w2.heap.size, 0, none⟩) 1 1) 1 [.int .i64 (wrap64 (s.now + 1)), .int .i64 1, .int .i64 0, .int .i64 s.next, .int .i64 0, .int .i64 0, .int .i64 0] from own_one w2 [.int .i64 (wrap64 (s.now + 1)), .int .i64 1, .int .i64 0, .int .i64 s.next, .int .i64 0, .int .i64 0, .int .i64 0] 61 7 rfl)
  have HLT := Lib.hid (show w2.heap.size < (w2.alloc (.cells #[.int .i64 (wrap64 (s.now + 1)), .int .i64 1, .int .i64 0, .int .i64 s.next, .int .i64 0, .int .i64 0, .int .i64 0] 61)).drew.heap.size ∧ w2.heap.size ≠ g by have := HN2.out.gt; simp; omega)
  have HBL := Lib.hid (And.intro HN2.out.bt HN2.out.gt)
  have HXZ := Lib.hid (show ¬ X w2.heap.size ∧ w0.heap.size ≤ w2.heap.size from ⟨fun hx => by have := (HN2.out.bk.lt _ hx).2; omega, HN2.out.sz⟩)
  refine wp_region_held_drew (S := fun w' => w'.cell? ⟨b, 5, none⟩ = some (.int .i64 (wrap64 (s.now + 1))) ∧ w'.cell? ⟨g, 1, none⟩ = some (.int .i64 s.next)) (by kernel_rfl) hS (fun hS0 => ?_)
  clear hS HN2 hu3
  refine wpAnyH_take (i := 0) (v := ?_) rfl (by kernel_rfl) (by kernel_rfl) (by kernel_rfl) (fun _ _ _ h => h) (Or.inl ⟨by kernel_rfl, ?_⟩) hS0 ?_
  rotate_left
  · intro w hSw
    try dsimp only at hSw
    go_simp
    try (with_reducible rfl)
  try simp only [Act.put, List.setIfInBounds_toArray, List.set_cons_zero, List.set_cons_succ]
  refine wpAnyH_take (i := 1) (v := ?_) rfl (by kernel_rfl) (by kernel_rfl) (by kernel_rfl) (fun _ _ _ h => h) (Or.inl ⟨by kernel_rfl, ?_⟩) hS0 ?_
  rotate_left
  · intro w hSw
    try dsimp only at hSw
    go_simp
    try (with_reducible rfl)
  try simp only [Act.put, List.setIfInBounds_toArray, List.set_cons_zero, List.set_cons_succ]
  refine wpAnyH_take (i := 2) (v := ?_) rfl (by kernel_rfl) (by kernel_rfl) (by kernel_rfl) (fun _ _ _ h => h) (Or.inl ⟨by kernel_rfl, ?_⟩) hS0 ?_
  rotate_left
  · intro w hSw
    try dsimp only at hSw
    go_simp
    try (with_reducible rfl)
  try simp only [Act.put, List.setIfInBounds_toArray, List.set_cons_zero, List.set_cons_succ]
  refine wpAnyH_take (i := 3) (v := ?_) rfl (by kernel_rfl) (by kernel_rfl) (by kernel_rfl) (fun _ _ _ h => h) (Or.inl ⟨by kernel_rfl, ?_⟩) hS0 ?_
  rotate_left
  · intro w hSw
    try dsimp only at hSw
    go_simp
    try (with_reducible rfl)
  try simp only [Act.put, List.setIfInBounds_toArray, List.set_cons_zero, List.set_cons_succ]
  refine wpAnyH_take (i := 4) (v := ?_) rfl (by kernel_rfl) (by kernel_rfl) (by kernel_rfl) (fun _ _ _ h => h) (Or.inl ⟨by kernel_rfl, ?_⟩) hS0 ?_
  rotate_left
  · intro w hSw
    try dsimp only at hSw
    go_simp
    try (with_reducible rfl)
  try simp only [Act.put, List.setIfInBounds_toArray, List.set_cons_zero, List.set_cons_succ]
  refine wpAnyH_take (i := 5) (v := ?_) rfl (by kernel_rfl) (by kernel_rfl) (by kernel_rfl) (fun _ _ _ h => h) (Or.inl ⟨by kernel_rfl, ?_⟩) hS0 ?_
  rotate_left
  · intro w hSw
    try dsimp only at hSw
    go_simp
    try (with_reducible rfl)
  try simp only [Act.put, List.setIfInBounds_toArray, List.set_cons_zero, List.set_cons_succ]
  refine wpAnyH_take (i := 6) (v := ?_) rfl (by kernel_rfl) (by kernel_rfl) (by kernel_rfl) (fun _ _ _ h => h) (Or.inl ⟨by kernel_rfl, ?_⟩) hS0 ?_
  rotate_left
  · intro w hSw
    try dsimp only at hSw
    go_simp
    try (with_reducible rfl)
  try simp only [Act.put, List.setIfInBounds_toArray, List.set_cons_zero, List.set_cons_succ]
  refine wpAnyH_take (i := 7) (v := ?_) rfl (by kernel_rfl) (by kernel_rfl) (by kernel_rfl) (fun _ _ _ h => h) (Or.inl ⟨by kernel_rfl, ?_⟩) hS0 ?_
  rotate_left
  · intro w hSw
    try dsimp only at hSw
    go_simp
    try (with_reducible rfl)
  try simp only [Act.put, List.setIfInBounds_toArray, List.set_cons_zero, List.set_cons_succ]
  refine wpAnyH_take (i := 8) (v := ?_) rfl (by kernel_rfl) (by kernel_rfl) (by kernel_rfl) (fun _ _ _ h => h) (Or.inl ⟨by kernel_rfl, ?_⟩) hS0 ?_
  rotate_left
  · intro w hSw
    try dsimp only at hSw
    go_simp
    try (with_reducible rfl)
  try simp only [Act.put, List.setIfInBounds_toArray, List.set_cons_zero, List.set_cons_succ]
  refine wpAnyH_take (i := 9) (v := ?_) rfl (by kernel_rfl) (by kernel_rfl) (by kernel_rfl) (fun _ _ _ h => h) (Or.inl ⟨by kernel_rfl, ?_⟩) hS0 ?_
  rotate_left
  · intro w hSw
    try dsimp only at hSw
    go_simp
    try (with_reducible rfl)
  try simp only [Act.put, List.setIfInBounds_toArray, List.set_cons_zero, List.set_cons_succ]
  refine wpAnyH_ready (rs := [10]) (by kernel_rfl) (by simp) ?_
  refine AllReadyH.cons rfl (fun K hK => ?_) AllReadyH.nil
  go_simp
  refine hK.out _ _ hS3 (fun hS1 => ?_)
  clear hK K
  try simp only [Act.put, List.setIfInBounds_toArray, List.set_cons_zero, List.set_cons_succ]
  refine wpAnyH_take (i := 11) (v := ?_) rfl (by kernel_rfl) (by kernel_rfl) (by kernel_rfl) (fun _ _ _ h => h) (Or.inl ⟨by kernel_rfl, ?_⟩) hS1 ?_
  rotate_left
  · intro w hSw
    try dsimp only at hSw
    go_simp
    try (with_reducible rfl)
  try simp only [Act.put, List.setIfInBounds_toArray, List.set_cons_zero, List.set_cons_succ]
  refine wpAnyH_done (by kernel_rfl) ?_ _
  try simp only [Act.put, List.setIfInBounds_toArray, List.set_cons_zero, List.set_cons_succ, List.getElem_toArray, List.getElem_cons_succ, List.getElem_cons_zero]
  clear hS0 hS1 hS3
  generalize (w2.alloc (.cells #[.int .i64 (wrap64 (s.now + 1)), .int .i64 1, .int .i64 0, .int .i64 s.next, .int .i64 0, .int .i64 0, .int .i64 0] 61)).drew = w3 at *
  obtain ⟨zb, hzb⟩ : ∃ zb, w2.heap.size = zb := ⟨_, rfl⟩
  rw [hzb] at HR3 HLT HBL HXZ ⊢
  clear hzb
  have HP3 := Lib.hid (HPL.out w3 HN3.out)
  obtain ⟨i0, hi', hz0, hz1, hz2⟩ := info_parts infoEv
  have HIE := Lib.hid hi'
  have HZ0 := Lib.hid hz0
  have HZ1 := Lib.hid hz1
  have HZ2 := Lib.hid hz2
  clear hi' hz0 hz1 hz2 HPL
  go_wp2_with fail
  refine HP3.out.mono ?_
  intro e w4 h4
  cases ro with
  | none =>
    obtain ⟨h0, v, xs, rfl, h5, h6, h7⟩ := h4
    have HR4 := Lib.hid (own_same HR3.out fun k e => by
      have e2 : k = zb := by simp only [Value.ownBlock, Option.some.injEq] at e; exact e.symm
      subst e2
      exact h0 _ HLT.out.1 HLT.out.2)
    dsimp only at h5 h7
    have H5 := Lib.hid h5
    have H6 := Lib.hid h6
    have H7 := Lib.hid h7
    have HS4 := Lib.hid (show zb ≤ w4.heap.size by have := (HR4.out.lt zb rfl).2; omega)
    clear h5 h6 h7 h0 HP3
    go_wp2_with (at_builtin; refine wpList_appendOwn rfl (.tmp 38) (.tmp 41) 23 rfl zb 61 i0 (.agg #[.int .i64 0, .int .i64 0, .int .i64 0, .int .i64 0, .int .i64 0, .int .i64 0, .int .i64 0]) 7 56 Try.underlying23 HIE.out HZ0.out HZ1.out HZ2.out rfl (by decide) _ 1 [.int .i64 (wrap64 (s.now + 1)), .int .i64 1, .int .i64 0, .int .i64 s.next, .int .i64 0, .int .i64 0, .int .i64 0] rfl HR4.out _ _ _ xs rfl H5.out H6.out (by decide) (by have := HNN.out; omega) HS4.out ?_; intro v5 w5 hown5 hg5 hbel5; have HN5 := Lib.hid (H7.out.offEv HR4.out rfl (by have := HBL.out; omega) (by have := HBL.out; omega) HXZ.out.1 hg5 HXZ.out.2); obtain ⟨A5, d5, rfl, _, _⟩ := own_form hown5; clear hown5 hg5 hbel5 HR4 H7 H5 H6; have g7 := HN5.out.cg.cell 7 (by decide); dsimp only [gF] at g7)
    refine (HBG.out _ (HOK.out (by trivial)) w5 _ HN5.out).mono ?_
    rintro e w6 ⟨rfl, X', h6⟩
    have H6 := Lib.hid h6
    clear h6 g7 HN5 HBG HOK
    go_wp2_with fail
    go_ret
    exact ⟨_, _, X', rfl, H6.out⟩
  | some v0 =>
    obtain ⟨h0, v, xs, rfl, h5, h6, vl', h7⟩ := h4
    have HR4 := Lib.hid (own_same HR3.out fun k e => by
      have e2 : k = zb := by simp only [Value.ownBlock, Option.some.injEq] at e; exact e.symm
      subst e2
      exact h0 _ HLT.out.1 HLT.out.2)
    dsimp only at h5 h7
    have H5 := Lib.hid h5
    have H6 := Lib.hid (show ∀ u ∈ xs ++ [.int .i64 (wrap64 (s.now + 1)), .int .i64 2, .int .i64 0, .int .i64 s.next, .int .i64 0, .int .i64 0, .int .i64 v0], u.oneCell' = true from fun u hu => by
      rcases List.mem_append.1 hu with hu | hu
      · exact h6 u hu
      · simp at hu; rcases hu with rfl | rfl | rfl | rfl | rfl | rfl | rfl <;> rfl)
    have H7 := Lib.hid h7
    have HS4 := Lib.hid (show zb ≤ w4.heap.size by have := (HR4.out.lt zb rfl).2; omega)
    clear h5 h6 h7 h0 HP3
    go_wp2_with (at_builtin; refine wpList_appendOwn rfl (.tmp 38) (.tmp 41) 23 rfl zb 61 i0 (.agg #[.int .i64 0, .int .i64 0, .int .i64 0, .int .i64 0, .int .i64 0, .int .i64 0, .int .i64 0]) 7 56 Try.underlying23 HIE.out HZ0.out HZ1.out HZ2.out rfl (by decide) _ 1 [.int .i64 (wrap64 (s.now + 1)), .int .i64 1, .int .i64 0, .int .i64 s.next, .int .i64 0, .int .i64 0, .int .i64 0] rfl HR4.out _ _ _ (xs ++ [.int .i64 (wrap64 (s.now + 1)), .int .i64 2, .int .i64 0, .int .i64 s.next, .int .i64 0, .int .i64 0, .int .i64 v0]) rfl H5.out H6.out (by decide) (by have := HNN.out; omega) HS4.out ?_; intro v5 w5 hown5 hg5 hbel5; have HN5 := Lib.hid (H7.out.offEv HR4.out rfl (by have := HBL.out; omega) (by have := HBL.out; omega) HXZ.out.1 hg5 HXZ.out.2); obtain ⟨A5, d5, rfl, _, _⟩ := own_form hown5; clear hown5 hg5 hbel5 HR4 H7 H5 H6; have g7 := HN5.out.cg.cell 7 (by decide); dsimp only [gF] at g7)
    go_ret
    exact ⟨_, vl', rfl, HN5.out⟩
end

end Go.Proofs.Ytedkgamecdmjdaa
