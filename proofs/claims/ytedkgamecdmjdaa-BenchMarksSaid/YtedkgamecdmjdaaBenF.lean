/-
  Package bench: play.
-/
import Derived.Test.YtedkgamecdmjdaaBenE
import Derived.Deep.DeepCutAuto
set_option linter.unusedVariables false
set_option linter.unusedSimpArgs false
namespace Go.Proofs.Ytedkgamecdmjdaa
open Go.RowKit

theorem enters {F : FuncId} {fn : Func} {c : Code} (hf : Try.prog.funcs[F]? = some fn) (hname : (fn.name == "runtime.NumGoroutine") = false) (hb : fn.body = some c) (args : Array Value) (W : World) : (callFunc F args).run Try.prog W = .ok (.enter F args) W := by
  have h1 : fn.name ≠ "runtime.NumGoroutine" := by simpa using hname
  simp [callFunc, hf, h1, hb, mark]
theorem ask_nil (a0 a1 a2 : Int) (w : World) : Calls Try.prog 37 #[.pointer none, .agg #[.int .i64 a0, .int .i64 a1, .int .i64 a2]] w fun e w' => e = .returned (.int .i64 0) ∧ Up w w' := by
  go_enter Try.func37, Try.ntmps37
  go_wp2_with fail
  go_ret
  exact ⟨rfl, (Up.refl w).alloc _⟩
theorem read_nil (c : Int) (w : World) : Calls Try.prog 23 #[.pointer none, .int .i64 c] w fun e w' => e = .returned (.int .i64 0) ∧ Up w w' := by
  have HA := Lib.hid (ask_nil 1 c 0 w)
  go_enter Try.func23, Try.ntmps23
  go_wp2_with fail
  refine HA.out.mono ?_
  rintro e w1 ⟨rfl, hb⟩
  have HB := Lib.hid hb
  clear hb
  go_wp2_with fail
  go_ret
  exact ⟨rfl, HB.out⟩
theorem write_nil (c v : Int) (w : World) : Calls Try.prog 27 #[.pointer none, .int .i64 c, .int .i64 v] w fun e w' => e = .returned (.tuple #[]) ∧ Up w w' := by
  have HA := Lib.hid (ask_nil 2 c v w)
  go_enter Try.func27, Try.ntmps27
  go_wp2_with fail
  refine HA.out.mono ?_
  rintro e w1 ⟨rfl, hb⟩
  have HB := Lib.hid hb
  clear hb
  go_wp2_with fail
  go_end0
  exact ⟨rfl, HB.out⟩

theorem boxes3 (w : World) (O1 O2 O3 : Obj) (nq : Nat) : Up w ((((w.alloc O1).alloc O2).drewN nq).alloc O3) ∧ ((((w.alloc O1).alloc O2).drewN nq).alloc O3).heap[w.heap.size]? = some O1 ∧ ((((w.alloc O1).alloc O2).drewN nq).alloc O3).heap[w.heap.size + 1]? = some O2 ∧
    ((((w.alloc O1).alloc O2).drewN nq).alloc O3).heap[w.heap.size + 1 + 1]? = some O3 ∧ ((((w.alloc O1).alloc O2).drewN nq).alloc O3).heap.size = w.heap.size + 1 + 1 + 1 := by
  have u1 : Up w (w.alloc O1) := (Up.refl w).alloc O1
  have u2 : Up (w.alloc O1) ((w.alloc O1).alloc O2) := (Up.refl _).alloc O2
  have u3 : Up ((w.alloc O1).alloc O2) ((((w.alloc O1).alloc O2).drewN nq).alloc O3) := ((Up.refl _).drewN nq).alloc O3
  have e1 := heap_alloc_new w O1
  have e2 := heap_alloc_new (w.alloc O1) O2
  have e3 := heap_alloc_new (((w.alloc O1).alloc O2).drewN nq) O3
  have hs : (((w.alloc O1).alloc O2).drewN nq).heap.size = w.heap.size + 1 + 1 := by simp
  rw [hs] at e3
  rw [World.size_alloc] at e2
  refine ⟨(u1.trans u2).trans u3, ?_, ?_, e3, by simp⟩
  · exact (u3.block _ (by simp; omega)).trans ((u2.block _ (by simp)).trans e1)
  · exact (u3.block _ (by simp)).trans e2
/-- What a play left, in a variable of its own. -/
structure OutB (wx : World) (n0 zb : Nat) (done : Bool) (s' : TS) (A : Option Addr) (c : Nat) (Nn : Option Addr) (d : Nat) (L : Option Addr) (e : Nat) : Prop where
  blk : wx.heap[zb]? = some (.cells #[.bool done, .slice A s'.acc.length c, .slice Nn s'.nts.length d, .slice L (shortL s'.loc).length e] 74 (0, 0))
  acc : AccRow wx A s'.acc
  nts : NoteRow wx Nn s'.nts
  loc : Row wx L (shortL s'.loc).length (IVal (shortL s'.loc))
  nil : L = none → e = 0
  ge : n0 ≤ zb
  ga : ∀ b off, A = some ⟨b, off, none⟩ → n0 ≤ b
  gl : ∀ b off, L = some ⟨b, off, none⟩ → n0 ≤ b
theorem OutB.up {w w' : World} {n0 zb : Nat} {done : Bool} {s' : TS} {A : Option Addr} {c : Nat} {Nn : Option Addr} {d : Nat} {L : Option Addr} {e : Nat} (h : OutB w n0 zb done s' A c Nn d L e) (u : Up w w') : OutB w' n0 zb done s' A c Nn d L e :=
  ⟨(u.block zb (Array.getElem?_eq_some_iff.1 h.blk).1).trans h.blk, h.acc.up u, h.nts.up u, h.loc.up u, h.nil, h.ge, h.ga, h.gl⟩
theorem own_IValB {w : World} {B : Nat} {A : Option Addr} {c : Nat} {l : List Int} (h : w.ownsRow B 3 1 (.slice A l.length c) l.length (icells l)) : Row w A l.length (IVal l) := by
  obtain ⟨A', c', e, hr⟩ := own_row h (f := IVal l) (fun k hk => iVal_map hk)
  cases e
  exact hr.1

/-- A row of notes does not lie in a block that holds no number. -/
theorem note_zb {w w' : World} {zb : Nat} {N : Option Addr} {l : List (Int × Int)} {x : Bool} {A1 A2 A3 : Option Addr} {n1 c1 n2 c2 n3 c3 : Nat} {t : TypeId} (h : NoteRow w N l) (hb : w.heap[zb]? = some (.cells #[.bool x, .slice A1 n1 c1, .slice A2 n2 c2, .slice A3 n3 c3] t (0, 0))) (hk : ∀ k, k ≠ zb → w'.heap[k]? = w.heap[k]?) : NoteRow w' N l := fun k hlt => by
  obtain ⟨b, off, e, h1, h2⟩ := h k hlt
  have hne : b ≠ zb := by
    rintro rfl
    rw [cell_of_row w b _ _ _ _ hb] at h1
    revert h1
    generalize off + k * 2 = j
    match j with
    | 0 | 1 | 2 | 3 => simp
    | _ + 4 => simp
  exact ⟨b, off, e, (tcell (hk b hne)).trans h1, (tcell (hk b hne)).trans h2⟩

/-- What play leaves. -/
def PlayPost (w0 w : World) (b g h c1 : Nat) (f : Value) (l : List SD) (s : TB) (u : BS) (N : Nat) (vm va vl : Value) (X : Nat → Prop) (ro : Option Int) (s' : TS) (e : Ending) (w' : World) : Prop :=
  (∀ k, k < w.heap.size → k ≠ g → w'.heap[k]? = w.heap[k]?) ∧ match ro with
  | none => ∃ v xs, e = .returned v ∧ w'.ownsRow w.heap.size 61 7 v ((s'.nts.length : Int) - s.nts).toNat xs ∧ (∀ u ∈ xs, u.oneCell' = true) ∧
      Ben w0 w' b g h c1 f l { s with nts := s'.nts.length, acc := s'.acc.getD (s'.acc.length - 1) (0, 0, 0), st := 1 } u N vm va vl X
  | some v0 => ∃ v xs, e = .returned v ∧ w'.ownsRow w.heap.size 61 7 v (((s'.nts.length : Int) - s.nts).toNat + 1) (xs ++ [.int .i64 s.now, .int .i64 2, .int .i64 0, .int .i64 s.next, .int .i64 0, .int .i64 0, .int .i64 v0]) ∧ (∀ u ∈ xs, u.oneCell' = true) ∧
      ∃ vl', Ben w0 w' b g h c1 f l { s with loc := shortL s'.loc, ans := [], nts := 0, st := 0, next := wrap64 (s.next + 1) } u N vm (.slice none 0 0) vl' X
theorem infoEv : (Try.prog.info? 61).map (fun i => (i.zero, i.size, i.bytes)) = some (some (.agg #[.int .i64 0, .int .i64 0, .int .i64 0, .int .i64 0, .int .i64 0, .int .i64 0, .int .i64 0]), 7, 56) := by kernel_rfl
theorem own_base {w : World} {B B' : Nat} {e : TypeId} {size n : Nat} {v : Value} {xs : List Value} (h : w.ownsRow B e size v n xs) (hB : B' ≤ B) : w.ownsRow B' e size v n xs := by
  refine ⟨h.1, ?_⟩
  rcases h.2 with h | ⟨g, cap, cur, h1, h2, h3⟩
  · exact .inl h
  · exact .inr ⟨g, cap, cur, h1, Nat.le_trans hB h2, h3⟩
theorem Ben.below {w0 wc W W' : World} {b g h c1 : Nat} {f : Value} {l : List SD} {s0 s : TB} {u0 u : BS} {N0 N : Nat} {vm va vl : Value} {X : Nat → Prop} (H0 : Ben w0 wc b g h c1 f l s0 u0 N0 vm va vl X) (H : Ben w0 W b g h c1 f l s u N vm va vl X) (hB : Below wc.heap.size W W') : Ben w0 W' b g h c1 f l s u N vm va vl X :=
  H.keep (Below.trans H.up (Below.mono hB H0.sz)) hB.size fun k _ hk => hB.block k (by
    rcases hk with rfl | rfl | e | e | e | e
    · exact H0.bt
    · exact H0.gt
    · exact (H0.mlt k e).2
    · exact (H0.ra.lt k e).2
    · exact (H0.rl.lt k e).2
    · exact (H0.bk.lt k e).2)
/-- Events so far. -/
def EvRow (w : World) (q : Nat) (lv : Value) (j : Nat) : Prop := ∃ xs, w.ownsRow q 61 7 lv j xs ∧ ∀ u ∈ xs, u.oneCell' = true
theorem EvRow.up {w w' : World} {q : Nat} {lv : Value} {j : Nat} (h : EvRow w q lv j) (u : Up w w') : EvRow w' q lv j := by
  obtain ⟨xs, h1, h2⟩ := h
  exact ⟨xs, own_same h1 fun k e => u.block k (h1.lt k e).2, h2⟩

set_option maxRecDepth 10000 in
set_option maxHeartbeats 4000000 in
theorem play_any {w0 w : World} {b g h c1 : Nat} {F : Nat} {cap : Array Value} {p : TS → Option Int × TS} {l : List SD} {s : TB} {u : BS} {N : Nat} {vm va vl : Value} {X : Nat → Prop} (H : Ben w0 w b g h c1 (.func (.func F) #[] cap) l s u N vm va vl X)
    (hcf : ∀ (args : Array Value) (W : World), (callFunc F args).run Try.prog W = .ok (.enter F args) W)
    (hdo : ∀ (W : World) (g' B : Nat), Up w0 W → w0.heap.size ≤ g' → Tape1 W g' B ⟨s.ans, s.loc, [], []⟩ → Calls Try.prog F (#[.pointer (some ⟨g', 0, none⟩), .int .i64 0, .int .i64 s.next] ++ cap) W (TPost encI g' B W (p ⟨s.ans, s.loc, [], []⟩)))
    (hl0 : s.loc.length ≤ 32768) (hl1 : s.ans.length ≤ 3000) (hn0 : 0 ≤ s.nts) (hn1 : s.nts ≤ 1000) (r : Option Int × TS) (hr : p ⟨s.ans, s.loc, [], []⟩ = r) (hn : r.2.nts.length ≤ 1000) (ha : r.2.acc.length ≤ 1000) (hac : r.1 = none → 1 ≤ r.2.acc.length) (hll : (shortL r.2.loc).length ≤ 1000000) :
    Calls Try.prog 17 #[.pointer (some ⟨b, 0, none⟩), .int .i64 0] w (PlayPost w0 w b g h c1 (.func (.func F) #[] cap) l s u N vm va vl X r.1 r.2) := by
  have b1 : w.cell? ⟨b, 1, none⟩ = some (.slice (some ⟨g, 0, none⟩) 1 c1) := H.cb.cell 1 (by decide)
  have b1l := cell_lt b1
  have g1 : w.cell? ⟨g, 1, none⟩ = some (.int .i64 s.next) := H.cg.cell 1 (by decide)
  have g1l := cell_lt g1
  have HH := Lib.hid H
  obtain ⟨ro, s'⟩ := r
  dsimp only at hn ha hac hll ⊢
  have HDO := Lib.hid hdo
  have HP := Lib.hid hr
  have HAC := Lib.hid hac
  have HBX := Lib.hid (boxes3 w (.cells #[.pointer (some ⟨b, 0, none⟩)] 22) (.cells #[.int .i64 0] 3) (.cells #[.int .i64 s.next] 3))
  have HNN := Lib.hid (And.intro hn0 (And.intro hn1 (And.intro hn (And.intro ha (And.intro hll (And.intro hl0 hl1))))))
  clear H hdo hr hac hn0 hn1 hn ha hll hl0 hl1
  go_enter Try.func17, Try.ntmps17
  go_wp2_with fail
  go_quiet (fail)
  rename_i nq
  go_wp2_with fail
  clear b1 b1l g1 g1l
  have HB1 := Lib.hid (HBX.out nq)
  obtain ⟨W1, hW1⟩ : ∃ x, (((w.alloc (.cells #[.pointer (some ⟨b, 0, none⟩)] 22)).alloc (.cells #[.int .i64 0] 3)).drewN nq).alloc (.cells #[.int .i64 s.next] 3) = x := ⟨_, rfl⟩
  rw [hW1] at HB1 ⊢
  clear hW1 HBX
  have HH1 := Lib.hid (HH.out.grow HB1.out.1)
  have HBW := Lib.hid (show b < w.heap.size ∧ g < w.heap.size from ⟨HH.out.bt, HH.out.gt⟩)
  obtain ⟨q, hq⟩ : ∃ q, w.heap.size = q := ⟨_, rfl⟩
  have HQ := Lib.hid hq
  rw [hq] at HB1 HBW ⊢
  clear hq
  obtain ⟨val, hval⟩ : ∃ x, ro.getD 0 = x := ⟨_, rfl⟩
  have HVAL := Lib.hid hval
  clear hval
  go_cut [7, 8] (fun v pz wx => ∃ (zb : Nat) (A : Option Addr) (c : Nat) (Nn : Option Addr) (d : Nat) (L : Option Addr) (e : Nat), v = .int .i64 val ∧ pz = .pointer (some ⟨zb, 0, none⟩) ∧ Hid (OutB wx W1.heap.size zb ro.isSome s' A c Nn d L e ∧ Up W1 wx))
  case first =>
    have hmf : ∀ (fn : Fn) (first cap : Array Value) (w : World), (Instr.makeFunc fn first cap).run Try.prog w = .ok (.func fn first cap) w := fun _ _ _ _ => rfl
    obtain ⟨A0, c0, rfl, _, _⟩ := own_form HH1.out.rl
    obtain ⟨A1, c2, rfl, _, _⟩ := own_form HH1.out.ra
    have hS : W1.drew.cell? ⟨g, 2, none⟩ = some (.slice A0 s.loc.length c0) ∧ W1.drew.cell? ⟨g, 3, none⟩ = some (.slice A1 s.ans.length c2) := ⟨HH1.out.cg.cell 2 (by decide), HH1.out.cg.cell 3 (by decide)⟩
    have HPL := Lib.hid (fun (W : World) (hU : Up W1 W) => playM 32 #[.pointer (some ⟨q, 0, none⟩), .pointer (some ⟨q + 1, 0, none⟩), .pointer (some ⟨q + 1 + 1, 0, none⟩)] p s.loc s.ans A0 A1 c0 c2 W (own_nil0 HH1.out.rl) HNN.out.2.2.2.2.2.1 HNN.out.2.2.2.2.2.2 ((own_IValB HH1.out.rl).up hU) ((own_IValB HH1.out.ra).up hU) (own_len HH1.out.rl)
      (fun args W => enters Try.func32 (by kernel_rfl) rfl args W)
      (fun W' g' B' hU' hg' hT' => by
        have hUU := hU.trans hU'
        have hq1 := (hUU.block _ (Array.getElem?_eq_some_iff.1 HB1.out.2.1).1).trans HB1.out.2.1
        have hq2 := (hUU.block _ (Array.getElem?_eq_some_iff.1 HB1.out.2.2.1).1).trans HB1.out.2.2.1
        have hq3 := (hUU.block _ (Array.getElem?_eq_some_iff.1 HB1.out.2.2.2.1).1).trans HB1.out.2.2.2.1
        have hs1 := HB1.out.2.2.2.2
        have hs2 := hU.size
        have hs3 := HBW.out
        exact pcl_any g' B' (cell_of_one hq1) (cell_of_one hq2) (cell_of_one hq3) ((HH1.out.grow hUU).cb.cell 2 (by decide)) hcf ⟨by omega, by omega, by omega, by omega⟩ hT' (fun W2 hU2 hT2 => HDO.out W2 g' B' ((HH1.out.grow hUU).up.trans hU2) (by have := HH1.out.sz; omega) hT2)))
    rw [HP.out] at HPL
    dsimp only at HPL
    rw [HVAL.out] at HPL
    clear HDO hcf
    refine wp_region_held_drew (S := fun w' => w'.cell? ⟨g, 2, none⟩ = some (.slice A0 s.loc.length c0) ∧ w'.cell? ⟨g, 3, none⟩ = some (.slice A1 s.ans.length c2)) (by kernel_rfl) hS (fun hS0 => ?_)
    clear hS
    refine wpAnyH_take (i := 0) (v := ?_) rfl (by kernel_rfl) (by kernel_rfl) (by kernel_rfl) (fun _ _ _ h => h) (Or.inl ⟨by kernel_rfl, ?_⟩) hS0 ?_
    rotate_left
    · intro w hSw
      try dsimp only at hSw
      go_simp
      try (with_reducible rfl)
    try simp only [Act.put, List.setIfInBounds_toArray, List.set_cons_zero, List.set_cons_succ]
    refine wpAnyH_take (i := 1) (v := ?_) rfl (by kernel_rfl) (by kernel_rfl) (by kernel_rfl) (fun _ _ _ h => h) (Or.inl ⟨by kernel_rfl, ?_⟩) hS0 ?_
    rotate_left
    · intro w hSw
      try dsimp only at hSw
      go_simp
      try (with_reducible rfl)
    try simp only [Act.put, List.setIfInBounds_toArray, List.set_cons_zero, List.set_cons_succ]
    refine wpAnyH_take (i := 2) (v := ?_) rfl (by kernel_rfl) (by kernel_rfl) (by kernel_rfl) (fun _ _ _ h => h) (Or.inl ⟨by kernel_rfl, ?_⟩) hS0 ?_
    rotate_left
    · intro w hSw
      try dsimp only at hSw
      go_simp
      try (with_reducible rfl)
    try simp only [Act.put, List.setIfInBounds_toArray, List.set_cons_zero, List.set_cons_succ]
    refine wpAnyH_take (i := 3) (v := ?_) rfl (by kernel_rfl) (by kernel_rfl) (by kernel_rfl) (fun _ _ _ h => h) (Or.inl ⟨by kernel_rfl, ?_⟩) hS0 ?_
    rotate_left
    · intro w hSw
      try dsimp only at hSw
      go_simp
      try (with_reducible rfl)
    try simp only [Act.put, List.setIfInBounds_toArray, List.set_cons_zero, List.set_cons_succ]
    refine wpAnyH_take (i := 4) (v := ?_) rfl (by kernel_rfl) (by kernel_rfl) (by kernel_rfl) (fun _ _ _ h => h) (Or.inl ⟨by kernel_rfl, ?_⟩) hS0 ?_
    rotate_left
    · intro w hSw
      try dsimp only at hSw
      go_simp
      try (with_reducible rfl)
    try simp only [Act.put, List.setIfInBounds_toArray, List.set_cons_zero, List.set_cons_succ]
    refine wpAnyH_take (i := 5) (v := ?_) rfl (by kernel_rfl) (by kernel_rfl) (by kernel_rfl) (fun _ _ _ h => h) (Or.inl ⟨by kernel_rfl, ?_⟩) hS0 ?_
    rotate_left
    · intro w hSw
      try dsimp only at hSw
      go_simp
      try (with_reducible rfl)
    try simp only [Act.put, List.setIfInBounds_toArray, List.set_cons_zero, List.set_cons_succ]
    refine wpAnyH_take (i := 6) (v := ?_) rfl (by kernel_rfl) (by kernel_rfl) (by kernel_rfl) (fun _ _ _ h => h) (Or.inl ⟨by kernel_rfl, ?_⟩) hS0 ?_
    rotate_left
    · intro w hSw
      try dsimp only at hSw
      go_simp
      try (with_reducible rfl)
    try simp only [Act.put, List.setIfInBounds_toArray, List.set_cons_zero, List.set_cons_succ]
    refine wpAnyH_take (i := 7) (v := ?_) rfl (by kernel_rfl) (by kernel_rfl) (by kernel_rfl) (fun _ _ _ h => h) (Or.inl ⟨by kernel_rfl, ?_⟩) hS0 ?_
    rotate_left
    · intro w hSw
      try dsimp only at hSw
      go_simp
      try (with_reducible rfl)
    try simp only [Act.put, List.setIfInBounds_toArray, List.set_cons_zero, List.set_cons_succ]
    refine wpAnyH_take (i := 8) (v := ?_) rfl (by kernel_rfl) (by kernel_rfl) (by kernel_rfl) (fun _ _ _ h => h) (Or.inl ⟨by kernel_rfl, ?_⟩) hS0 ?_
    rotate_left
    · intro w hSw
      try dsimp only at hSw
      go_simp
      try (with_reducible rfl)
    try simp only [Act.put, List.setIfInBounds_toArray, List.set_cons_zero, List.set_cons_succ]
    have HSU := Lib.hid (fun (W : World) (hU : Up W1 W) => show W.cell? ⟨g, 2, none⟩ = some (.slice A0 s.loc.length c0) ∧ W.cell? ⟨g, 3, none⟩ = some (.slice A1 s.ans.length c2) from ⟨(HH1.out.grow hU).cg.cell 2 (by decide), (HH1.out.grow hU).cg.cell 3 (by decide)⟩)
    have HSG := Lib.hid HH1.out.gt
    refine wpAnyH_ready (rs := [9, 13]) (by kernel_rfl) (by simp) ?_
    refine AllReadyH.cons rfl (fun K hK => ?_) (AllReadyH.cons rfl (fun K hK => ?_) AllReadyH.nil)
    · go_simp
      refine (HPL.out _ (Up.refl W1).drew).mono ?_
      rintro e w2 ⟨ov, rfl, ⟨A, c, Nn, d, L, e', rfl, r1, r2, r3, r4, _, r6, r7⟩, hu2⟩
      have hU2 : Up W1 w2 := (Up.refl W1).drew.trans hu2
      refine hK.out _ _ (HSU.out w2 hU2) (fun hS1 => ?_)
      clear hK K
      try simp only [Act.put, List.setIfInBounds_toArray, List.set_cons_zero, List.set_cons_succ]
      refine wpAnyH_take (i := 10) (v := ?_) rfl (by kernel_rfl) (by kernel_rfl) (by kernel_rfl) (fun _ _ _ h => h) (Or.inl ⟨by kernel_rfl, ?_⟩) hS1 ?_
      rotate_left
      · intro w hSw
        try dsimp only at hSw
        go_simp
        try (with_reducible rfl)
      try simp only [Act.put, List.setIfInBounds_toArray, List.set_cons_zero, List.set_cons_succ]
      refine wpAnyH_take (i := 11) (v := ?_) rfl (by kernel_rfl) (by kernel_rfl) (by kernel_rfl) (fun _ _ _ h => h) (Or.inl ⟨by kernel_rfl, ?_⟩) hS1 ?_
      rotate_left
      · intro w hSw
        try dsimp only at hSw
        go_simp
        try (with_reducible rfl)
      try simp only [Act.put, List.setIfInBounds_toArray, List.set_cons_zero, List.set_cons_succ]
      refine wpAnyH_take (i := 12) (v := ?_) rfl (by kernel_rfl) (by kernel_rfl) (by kernel_rfl) (fun _ _ _ h => h) (Or.inl ⟨by kernel_rfl, ?_⟩) hS1 ?_
      rotate_left
      · intro w hSw
        try dsimp only at hSw
        go_simp
        try (with_reducible rfl)
      try simp only [Act.put, List.setIfInBounds_toArray, List.set_cons_zero, List.set_cons_succ]
      refine wpAnyH_ready (rs := [13]) (by kernel_rfl) (by simp) ?_
      refine AllReadyH.cons rfl (fun K hK => ?_) AllReadyH.nil
      go_simp
      refine hK.out _ _ (HSU.out _ (hU2.alloc _)) (fun hS2 => ?_)
      clear hK K
      try simp only [Act.put, List.setIfInBounds_toArray, List.set_cons_zero, List.set_cons_succ]
      refine wpAnyH_take (i := 14) (v := ?_) rfl (by kernel_rfl) (by kernel_rfl) (by kernel_rfl) (fun _ _ _ h => h) (Or.inl ⟨by kernel_rfl, ?_⟩) hS2 ?_
      rotate_left
      · intro w hSw
        try dsimp only at hSw
        go_simp
        try (with_reducible rfl)
      try simp only [Act.put, List.setIfInBounds_toArray, List.set_cons_zero, List.set_cons_succ]
      refine wpAnyH_ready (rs := [15]) (by kernel_rfl) (by simp) ?_
      refine AllReadyH.cons rfl (fun K hK => ?_) AllReadyH.nil
      go_simp
      have HO := Lib.hid (show OutB (w2.alloc (.cells #[.bool ro.isSome, .slice A s'.acc.length c, .slice Nn s'.nts.length d, .slice L (shortL s'.loc).length e'] 74)) W1.heap.size w2.heap.size ro.isSome s' A c Nn d L e' from
        ⟨heap_alloc_new w2 _, r1.up ((Up.refl w2).alloc _), r2.up ((Up.refl w2).alloc _), r3.up ((Up.refl w2).alloc _), r4, hU2.size, fun b' off e => by have := r6 b' off e; simp at this; omega, fun b' off e => by have := r7 b' off e; simp at this; omega⟩)
      refine hK.out _ _ (HSU.out _ (hU2.alloc _)) (fun hS3 => ?_)
      clear hK K
      try simp only [Act.put, List.setIfInBounds_toArray, List.set_cons_zero, List.set_cons_succ]
      refine wpAnyH_done (by kernel_rfl) ?_ _
      try simp only [Act.put, List.setIfInBounds_toArray, List.set_cons_zero, List.set_cons_succ, List.getElem_toArray, List.getElem_cons_succ, List.getElem_cons_zero]
      go_wp2_with fail
      go_meet
      exact ⟨_, _, _, _, _, _, _, rfl, rfl, Lib.hid ⟨HO.out, hU2.alloc _⟩⟩
    · go_simp
      refine hK.out _ _ (HSU.out _ ((Up.refl W1).drew.trans ((Up.refl W1.drew).alloc _))) (fun hS1 => ?_)
      clear hK K
      try simp only [Act.put, List.setIfInBounds_toArray, List.set_cons_zero, List.set_cons_succ]
      refine wpAnyH_ready (rs := [9]) (by kernel_rfl) (by simp) ?_
      refine AllReadyH.cons rfl (fun K hK => ?_) AllReadyH.nil
      go_simp
      refine (HPL.out _ ((Up.refl W1).drew.trans ((Up.refl W1.drew).alloc _))).mono ?_
      rintro e w2 ⟨ov, rfl, ⟨A, c, Nn, d, L, e', rfl, r1, r2, r3, r4, _, r6, r7⟩, hu2⟩
      have hU0 : Up W1 (W1.alloc (.cells #[.bool false, .slice none 0 0, .slice none 0 0, .slice none 0 0] 74)).drew := ((Up.refl W1).alloc _).drew
      have hzb : (W1.alloc (.cells #[.bool false, .slice none 0 0, .slice none 0 0, .slice none 0 0] 74)).drew.heap[W1.heap.size]? = some (.cells #[.bool false, .slice none 0 0, .slice none 0 0, .slice none 0 0] 74 (0, 0)) := heap_alloc_new W1 _
      have hs0 : (W1.alloc (.cells #[.bool false, .slice none 0 0, .slice none 0 0, .slice none 0 0] 74)).drew.heap.size = W1.heap.size + 1 := by simp
      have r6' : ∀ b' off, A = some ⟨b', off, none⟩ → W1.heap.size + 1 + 1 ≤ b' := fun b' off e => by have := r6 b' off e; simpa using this
      have r7' : ∀ b' off, L = some ⟨b', off, none⟩ → W1.heap.size + 1 + 1 ≤ b' := fun b' off e => by have := r7 b' off e; simpa using this
      have hb2 := (hu2.block W1.heap.size (by simp)).trans hzb
      have hU2 : Up W1 w2 := hU0.trans hu2
      obtain ⟨zb, hz⟩ : ∃ zb, W1.heap.size = zb := ⟨_, rfl⟩
      have HZ := Lib.hid hz
      have HRR := Lib.hid (And.intro r1 (And.intro r2 (And.intro r3 (And.intro r4 (And.intro r6' r7')))))
      rw [hz] at hb2 HRR HSG ⊢
      clear hu2 hzb hs0 r1 r2 r3 r4 r6 r7 r6' r7' hU0 hz
      have z0 := cell_of_row _ _ 0 _ _ _ hb2
      have z1 := cell_of_row _ _ 1 _ _ _ hb2
      have z2 := cell_of_row _ _ 2 _ _ _ hb2
      have z3 := cell_of_row _ _ 3 _ _ _ hb2
      simp only [List.getElem?_toArray, List.getElem?_cons_zero, List.getElem?_cons_succ] at z0 z1 z2 z3
      have k0 := frozen_of_row _ _ 0 _ _ hb2
      have k1 := frozen_of_row _ _ 1 _ _ hb2
      have k2 := frozen_of_row _ _ 2 _ _ hb2
      have k3 := frozen_of_row _ _ 3 _ _ hb2
      have HB2 := Lib.hid hb2
      have HU2 := Lib.hid hU2
      have hSx := HSU.out w2 hU2
      clear hb2 hU2
      refine hK.out _ _ hSx (fun hS2 => ?_)
      clear hK K
      try simp only [Act.put, List.setIfInBounds_toArray, List.set_cons_zero, List.set_cons_succ]
      refine wpAnyH_take (i := 10) (v := ?_) rfl (by kernel_rfl) (by kernel_rfl) (by kernel_rfl) (fun _ _ _ h => h) (Or.inl ⟨by kernel_rfl, ?_⟩) hS2 ?_
      rotate_left
      · intro w hSw
        try dsimp only at hSw
        go_simp
        try (with_reducible rfl)
      try simp only [Act.put, List.setIfInBounds_toArray, List.set_cons_zero, List.set_cons_succ]
      refine wpAnyH_take (i := 11) (v := ?_) rfl (by kernel_rfl) (by kernel_rfl) (by kernel_rfl) (fun _ _ _ h => h) (Or.inl ⟨by kernel_rfl, ?_⟩) hS2 ?_
      rotate_left
      · intro w hSw
        try dsimp only at hSw
        go_simp
        try (with_reducible rfl)
      try simp only [Act.put, List.setIfInBounds_toArray, List.set_cons_zero, List.set_cons_succ]
      refine wpAnyH_take (i := 12) (v := ?_) rfl (by kernel_rfl) (by kernel_rfl) (by kernel_rfl) (fun _ _ _ h => h) (Or.inl ⟨by kernel_rfl, ?_⟩) hS2 ?_
      rotate_left
      · intro w hSw
        try dsimp only at hSw
        go_simp
        try (with_reducible rfl)
      try simp only [Act.put, List.setIfInBounds_toArray, List.set_cons_zero, List.set_cons_succ]
      refine wpAnyH_take (i := 14) (v := ?_) rfl (by kernel_rfl) (by kernel_rfl) (by kernel_rfl) (fun _ _ _ h => h) (Or.inl ⟨by kernel_rfl, ?_⟩) hS2 ?_
      rotate_left
      · intro w hSw
        try dsimp only at hSw
        go_simp
        try (with_reducible rfl)
      try simp only [Act.put, List.setIfInBounds_toArray, List.set_cons_zero, List.set_cons_succ]
      refine wpAnyH_ready (rs := [15]) (by kernel_rfl) (by simp) ?_
      refine AllReadyH.cons rfl (fun K hK => ?_) AllReadyH.nil
      go_simp
      have hPo : ∀ k, k ≠ zb → (put4 w2 zb (.bool ro.isSome) (.slice A s'.acc.length c) (.slice Nn s'.nts.length d) (.slice L (shortL s'.loc).length e')).heap[k]? = w2.heap[k]? := fun k hk => put4_other w2 zb k (.bool ro.isSome) (.slice A s'.acc.length c) (.slice Nn s'.nts.length d) (.slice L (shortL s'.loc).length e') hk
      have hPU : Up W1 (put4 w2 zb (.bool ro.isSome) (.slice A s'.acc.length c) (.slice Nn s'.nts.length d) (.slice L (shortL s'.loc).length e')) := Below.trans HU2.out (put4_below w2 zb W1.heap.size (.bool ro.isSome) (.slice A s'.acc.length c) (.slice Nn s'.nts.length d) (.slice L (shortL s'.loc).length e') (by have := HZ.out; omega))
      have HO := Lib.hid (show OutB (put4 w2 zb (.bool ro.isSome) (.slice A s'.acc.length c) (.slice Nn s'.nts.length d) (.slice L (shortL s'.loc).length e')) W1.heap.size zb ro.isSome s' A c Nn d L e' from
        ⟨put4_same (.bool ro.isSome) (.slice A s'.acc.length c) (.slice Nn s'.nts.length d) (.slice L (shortL s'.loc).length e') HB2.out, HRR.out.1.keep (fun b' hb' ⟨off, e⟩ => hPo b' (by have := HRR.out.2.2.2.2.1 b' off e; omega)), note_zb HRR.out.2.1 HB2.out hPo, row_keep HRR.out.2.2.1 (fun b' off e _ => hPo b' (by have := HRR.out.2.2.2.2.2 b' off e; omega)), HRR.out.2.2.2.1, by have := HZ.out; omega,
          fun b' off e => by have := HRR.out.2.2.2.2.1 b' off e; have := HZ.out; omega, fun b' off e => by have := HRR.out.2.2.2.2.2 b' off e; have := HZ.out; omega⟩)
      refine hK.out _ _ (HSU.out (put4 w2 zb (.bool ro.isSome) (.slice A s'.acc.length c) (.slice Nn s'.nts.length d) (.slice L (shortL s'.loc).length e')) hPU) (fun hS3 => ?_)
      clear hK K
      try simp only [Act.put, List.setIfInBounds_toArray, List.set_cons_zero, List.set_cons_succ]
      refine wpAnyH_done (by kernel_rfl) ?_ _
      try simp only [Act.put, List.setIfInBounds_toArray, List.set_cons_zero, List.set_cons_succ, List.getElem_toArray, List.getElem_cons_succ, List.getElem_cons_zero]
      clear z0 z1 z2 z3 k0 k1 k2 k3 hS0 hS1 hS2 hS3 hSx
      go_wp2_with fail
      go_meet
      exact ⟨_, _, _, _, _, _, _, rfl, rfl, Lib.hid ⟨HO.out, hPU⟩⟩
  case rest =>
    obtain ⟨zb, A, c, Nn, d, L, e', rfl, rfl, HC⟩ := hcut
    have HOB := Lib.hid HC.out.1
    have HUC := Lib.hid HC.out.2
    have HBC := Lib.hid (HH1.out.grow HC.out.2)
    have HQS := Lib.hid (fun (W : World) (hU : Up wc W) => show W.cell? ⟨q, 0, none⟩ = some (.pointer (some ⟨b, 0, none⟩)) ∧ W.cell? ⟨q + 1, 0, none⟩ = some (.int .i64 0) ∧ W.cell? ⟨q + 1 + 1, 0, none⟩ = some (.int .i64 s.next) ∧ W.cell? ⟨b, 5, none⟩ = some (.int .i64 s.now) from
      have hUU := HUC.out.trans hU
      ⟨cell_of_one ((hUU.block _ (Array.getElem?_eq_some_iff.1 HB1.out.2.1).1).trans HB1.out.2.1), cell_of_one ((hUU.block _ (Array.getElem?_eq_some_iff.1 HB1.out.2.2.1).1).trans HB1.out.2.2.1), cell_of_one ((hUU.block _ (Array.getElem?_eq_some_iff.1 HB1.out.2.2.2.1).1).trans HB1.out.2.2.2.1), (HBC.out.grow hU).cb.cell 5 (by decide)⟩)
    have HSZ := Lib.hid (show W1.heap.size = q + 1 + 1 + 1 ∧ W1.heap.size ≤ wc.heap.size from ⟨HB1.out.2.2.2.2, HUC.out.size⟩)
    have HWC := Lib.hid (show Up w wc from HB1.out.1.trans HUC.out)
    clear HC HDO hcf HP HB1 HH1 HH HUC
    obtain ⟨nn, hnn⟩ : ∃ nn, s'.nts.length = nn := ⟨_, rfl⟩
    obtain ⟨hn0, hn1, hn2, hn3, hn4, -, -⟩ := HNN.out
    rw [hnn] at hn2
    have HNE := Lib.hid hnn
    have g8 : wc.cell? ⟨g, 8, none⟩ = some (.int .i64 s.nts) := HBC.out.cg.cell 8 (by decide)
    obtain ⟨nt, hnt⟩ : ∃ nt : Int, s.nts = nt := ⟨_, rfl⟩
    have HNT := Lib.hid hnt
    rw [hnt] at g8 hn0 hn1
    have HN3 := Lib.hid hn3
    have HN4 := Lib.hid hn4
    have HKK := Lib.hid (show ((nn : Int) - nt).toNat = ((s'.nts.length : Int) - s.nts).toNat by rw [HNE.out, HNT.out])
    obtain ⟨kk, hkk⟩ : ∃ kk, ((nn : Int) - nt).toNat = kk := ⟨_, rfl⟩
    rw [hkk] at HKK
    have z2c : wc.cell? ⟨zb, 2, none⟩ = some (.slice Nn nn d) := by
      have := cell_of_row wc zb 2 _ _ _ HOB.out.blk
      rw [HNE.out] at this
      exact this
    clear hnn hnt HNN hn3 hn4
    go_wp2_with fail
    go_loopw [9, 10] (fun lv iv wr => ∃ j : Nat, j ≤ kk ∧ iv = .int .i64 (nt + j) ∧ Hid (EvRow wr wc.heap.size lv j) ∧ Hid (Up wc wr)) (fun _ t _ => ((nn : Int) - intOf t).toNat)
    case atStart => exact ⟨0, by omega, by simp, Lib.hid ⟨[], own_nil _ _ _ _, fun u hu => (by cases hu)⟩, Lib.hid (Up.refl _)⟩
    case round =>
      obtain ⟨j, hj, rfl, HE, HU⟩ := hrel
      have z2 := (HU.out.cell (cell_lt z2c)).trans z2c
      by_cases hlt : nt + j < nn
      · obtain ⟨i, hi⟩ : ∃ i : Nat, nt + (j : Int) = i := ⟨(nt + j).toNat, by omega⟩
        obtain ⟨nb, off, rfl, hx, _⟩ := HOB.out.nts i (by rw [HNE.out]; omega)
        generalize (s'.nts.getD i (0, 0)).1 = x at *
        have HSI := Lib.hid (fun (W : World) (hU : Up wc W) => show W.cell? ⟨q, 0, none⟩ = some (.pointer (some ⟨b, 0, none⟩)) ∧ W.cell? ⟨q + 1, 0, none⟩ = some (.int .i64 0) ∧ W.cell? ⟨q + 1 + 1, 0, none⟩ = some (.int .i64 s.next) ∧ W.cell? ⟨b, 5, none⟩ = some (.int .i64 s.now) ∧ W.cell? ⟨zb, 2, none⟩ = some (.slice (some ⟨nb, off, none⟩) nn d) ∧ W.cell? ⟨nb, off + i * 2, none⟩ = some (.int .i64 x) from
          ⟨(HQS.out W hU).1, (HQS.out W hU).2.1, (HQS.out W hU).2.2.1, (HQS.out W hU).2.2.2, (hU.cell (cell_lt z2c)).trans z2c, (hU.cell (cell_lt hx)).trans hx⟩)
        obtain ⟨xs, hxs, hone⟩ := HE.out
        obtain ⟨Ae, ce, rfl, hce, _⟩ := own_form hxs
        have HXS := Lib.hid hxs
        have HONE := Lib.hid (show ∀ u ∈ xs ++ [.int .i64 s.now, .int .i64 3, .int .i64 0, .int .i64 s.next, .int .i64 x, .int .i64 0, .int .i64 0], u.oneCell' = true from fun u hu => by
          rcases List.mem_append.1 hu with hu | hu
          · exact hone u hu
          · simp at hu; rcases hu with rfl | rfl | rfl | rfl | rfl | rfl | rfl <;> rfl)
        have HI2 := Lib.hid hi
        have HJ := Lib.hid (show j < kk ∧ j ≤ 1000 by omega)
        rw [hi] at hlt
        rw [hi]
        have hw1 : wrap64 ((i : Int) + 1) = (i : Int) + 1 := IntWalk.wrap64_in _ (by omega)
        have HWQ := Lib.hid (show wc.heap.size ≤ wr.heap.size from HU.out.size)
        obtain ⟨i0, hi', hz0, hz1, hz2⟩ := info_parts infoEv
        have HIE := Lib.hid hi'
        have HZ0 := Lib.hid hz0
        have HZ1 := Lib.hid hz1
        have HZ2 := Lib.hid hz2
        clear hi hx hxs hone z2 hi' hz0 hz1 hz2 hj
        have z2 := (HSI.out wr HU.out).2.2.2.2.1
        go_wp2_with fail
        clear z2
        have hS := HSI.out wr.drew HU.out.drew
        refine wp_region_held_drew (S := fun w' => w'.cell? ⟨q, 0, none⟩ = some (.pointer (some ⟨b, 0, none⟩)) ∧ w'.cell? ⟨q + 1, 0, none⟩ = some (.int .i64 0) ∧ w'.cell? ⟨q + 1 + 1, 0, none⟩ = some (.int .i64 s.next) ∧ w'.cell? ⟨b, 5, none⟩ = some (.int .i64 s.now) ∧ w'.cell? ⟨zb, 2, none⟩ = some (.slice (some ⟨nb, off, none⟩) nn d) ∧ w'.cell? ⟨nb, off + i * 2, none⟩ = some (.int .i64 x)) (by kernel_rfl) hS (fun hS0 => ?_)
        clear hS
        refine wpAnyH_take (i := 0) (v := ?_) rfl (by kernel_rfl) (by kernel_rfl) (by kernel_rfl) (fun _ _ _ h => h) (Or.inl ⟨by kernel_rfl, ?_⟩) hS0 ?_
        rotate_left
        · intro w hSw
          try dsimp only at hSw
          go_simp
          try (with_reducible rfl)
        try simp only [Act.put, List.setIfInBounds_toArray, List.set_cons_zero, List.set_cons_succ]
        refine wpAnyH_take (i := 1) (v := ?_) rfl (by kernel_rfl) (by kernel_rfl) (by kernel_rfl) (fun _ _ _ h => h) (Or.inl ⟨by kernel_rfl, ?_⟩) hS0 ?_
        rotate_left
        · intro w hSw
          try dsimp only at hSw
          go_simp
          try (with_reducible rfl)
        try simp only [Act.put, List.setIfInBounds_toArray, List.set_cons_zero, List.set_cons_succ]
        refine wpAnyH_take (i := 2) (v := ?_) rfl (by kernel_rfl) (by kernel_rfl) (by kernel_rfl) (fun _ _ _ h => h) (Or.inl ⟨by kernel_rfl, ?_⟩) hS0 ?_
        rotate_left
        · intro w hSw
          try dsimp only at hSw
          go_simp
          try (with_reducible rfl)
        try simp only [Act.put, List.setIfInBounds_toArray, List.set_cons_zero, List.set_cons_succ]
        refine wpAnyH_take (i := 3) (v := ?_) rfl (by kernel_rfl) (by kernel_rfl) (by kernel_rfl) (fun _ _ _ h => h) (Or.inl ⟨by kernel_rfl, ?_⟩) hS0 ?_
        rotate_left
        · intro w hSw
          try dsimp only at hSw
          go_simp
          try (with_reducible rfl)
        try simp only [Act.put, List.setIfInBounds_toArray, List.set_cons_zero, List.set_cons_succ]
        refine wpAnyH_take (i := 4) (v := ?_) rfl (by kernel_rfl) (by kernel_rfl) (by kernel_rfl) (fun _ _ _ h => h) (Or.inl ⟨by kernel_rfl, ?_⟩) hS0 ?_
        rotate_left
        · intro w hSw
          try dsimp only at hSw
          go_simp
          try (with_reducible rfl)
        try simp only [Act.put, List.setIfInBounds_toArray, List.set_cons_zero, List.set_cons_succ]
        refine wpAnyH_take (i := 5) (v := ?_) rfl (by kernel_rfl) (by kernel_rfl) (by kernel_rfl) (fun _ _ _ h => h) (Or.inl ⟨by kernel_rfl, ?_⟩) hS0 ?_
        rotate_left
        · intro w hSw
          try dsimp only at hSw
          go_simp
          try (with_reducible rfl)
        try simp only [Act.put, List.setIfInBounds_toArray, List.set_cons_zero, List.set_cons_succ]
        refine wpAnyH_take (i := 6) (v := ?_) rfl (by kernel_rfl) (by kernel_rfl) (by kernel_rfl) (fun _ _ _ h => h) (Or.inl ⟨by kernel_rfl, ?_⟩) hS0 ?_
        rotate_left
        · intro w hSw
          try dsimp only at hSw
          go_simp
          try (with_reducible rfl)
        try simp only [Act.put, List.setIfInBounds_toArray, List.set_cons_zero, List.set_cons_succ]
        refine wpAnyH_take (i := 7) (v := ?_) rfl (by kernel_rfl) (by kernel_rfl) (by kernel_rfl) (fun _ _ _ h => h) (Or.inl ⟨by kernel_rfl, ?_⟩) hS0 ?_
        rotate_left
        · intro w hSw
          try dsimp only at hSw
          go_simp
          try (with_reducible rfl)
        try simp only [Act.put, List.setIfInBounds_toArray, List.set_cons_zero, List.set_cons_succ]
        refine wpAnyH_take (i := 8) (v := ?_) rfl (by kernel_rfl) (by kernel_rfl) (by kernel_rfl) (fun _ _ _ h => h) (Or.inl ⟨by kernel_rfl, ?_⟩) hS0 ?_
        rotate_left
        · intro w hSw
          try dsimp only at hSw
          go_simp
          try (with_reducible rfl)
        try simp only [Act.put, List.setIfInBounds_toArray, List.set_cons_zero, List.set_cons_succ]
        refine wpAnyH_take (i := 9) (v := ?_) rfl (by kernel_rfl) (by kernel_rfl) (by kernel_rfl) (fun _ _ _ h => h) (Or.inl ⟨by kernel_rfl, ?_⟩) hS0 ?_
        rotate_left
        · intro w hSw
          try dsimp only at hSw
          go_simp
          try (with_reducible rfl)
        try simp only [Act.put, List.setIfInBounds_toArray, List.set_cons_zero, List.set_cons_succ]
        refine wpAnyH_take (i := 10) (v := ?_) rfl (by kernel_rfl) (by kernel_rfl) (by kernel_rfl) (fun _ _ _ h => h) (Or.inl ⟨by kernel_rfl, ?_⟩) hS0 ?_
        rotate_left
        · intro w hSw
          try dsimp only at hSw
          go_simp
          try (with_reducible rfl)
        try simp only [Act.put, List.setIfInBounds_toArray, List.set_cons_zero, List.set_cons_succ]
        refine wpAnyH_take (i := 11) (v := ?_) rfl (by kernel_rfl) (by kernel_rfl) (by kernel_rfl) (fun _ _ _ h => h) (Or.inl ⟨by kernel_rfl, ?_⟩) hS0 ?_
        rotate_left
        · intro w hSw
          try dsimp only at hSw
          go_simp
          try (with_reducible rfl)
        try simp only [Act.put, List.setIfInBounds_toArray, List.set_cons_zero, List.set_cons_succ]
        refine wpAnyH_take (i := 12) (v := ?_) rfl (by kernel_rfl) (by kernel_rfl) (by kernel_rfl) (fun _ _ _ h => h) (Or.inl ⟨by kernel_rfl, ?_⟩) hS0 ?_
        rotate_left
        · intro w hSw
          try dsimp only at hSw
          go_simp
          try (with_reducible rfl)
        try simp only [Act.put, List.setIfInBounds_toArray, List.set_cons_zero, List.set_cons_succ]
        refine wpAnyH_take (i := 13) (v := ?_) rfl (by kernel_rfl) (by kernel_rfl) (by kernel_rfl) (fun _ _ _ h => h) (Or.inl ⟨by kernel_rfl, ?_⟩) hS0 ?_
        rotate_left
        · intro w hSw
          try dsimp only at hSw
          go_simp
          try (with_reducible rfl)
        try simp only [Act.put, List.setIfInBounds_toArray, List.set_cons_zero, List.set_cons_succ]
        refine wpAnyH_ready (rs := [14]) (by kernel_rfl) (by simp) ?_
        refine AllReadyH.cons rfl (fun K hK => ?_) AllReadyH.nil
        go_simp
        refine hK.out _ _ (HSI.out _ ((HU.out.alloc _).drew)) (fun hS1 => ?_)
        clear hK K
        try simp only [Act.put, List.setIfInBounds_toArray, List.set_cons_zero, List.set_cons_succ]
        refine wpAnyH_ready (rs := [15]) (by kernel_rfl) (by simp) ?_
        refine AllReadyH.cons rfl (fun K hK => ?_) AllReadyH.nil
        refine step_append_lies _ rfl (.tmp 45) (.tmp 59) 23 rfl wc.heap.size 61 i0 (.agg #[.int .i64 0, .int .i64 0, .int .i64 0, .int .i64 0, .int .i64 0, .int .i64 0, .int .i64 0]) 7 56 Try.underlying23 HIE.out HZ0.out HZ1.out HZ2.out rfl (by decide) _ j xs rfl (own_same HXS.out fun k e => ((Up.refl wr).alloc _).drew.block k (HXS.out.lt k e).2) ⟨wr.heap.size, 0, none⟩ 1 1 [.int .i64 s.now, .int .i64 3, .int .i64 0, .int .i64 s.next, .int .i64 x, .int .i64 0, .int .i64 0] rfl rfl (news1 wr _ _) (by simp [Value.oneCell']) (by decide) (by have := HJ.out; unfold maxLen; omega) (by have := HJ.out; omega) (by have := HWQ.out; simp; omega) _ rfl ?_
        intro g5 cap5 w5 hown5 hg5 hat5 hlt5
        have hU5 : Up wc w5 := Below.trans ((HU.out.alloc _).drew) (grownBy_below hg5 (by have := HWQ.out; simp; omega) (own_ge HXS.out))
        have HU5 := Lib.hid hU5
        have HE5 := Lib.hid (show EvRow w5 wc.heap.size _ (j + 1) from ⟨_, hown5, HONE.out⟩)
        clear hown5 hg5 hat5 hlt5 hU5
        refine hK.out _ _ (HSI.out _ HU5.out) (fun hS2 => ?_)
        clear hK K
        try simp only [Act.put, List.setIfInBounds_toArray, List.set_cons_zero, List.set_cons_succ]
        refine wpAnyH_take (i := 16) (v := ?_) rfl (by kernel_rfl) (by kernel_rfl) (by kernel_rfl) (fun _ _ _ h => h) (Or.inl ⟨by kernel_rfl, ?_⟩) hS2 ?_
        rotate_left
        · intro w hSw
          try dsimp only at hSw
          go_simp
          try (with_reducible rfl)
        try simp only [Act.put, List.setIfInBounds_toArray, List.set_cons_zero, List.set_cons_succ]
        refine wpAnyH_done (by kernel_rfl) ?_ _
        try simp only [Act.put, List.setIfInBounds_toArray, List.set_cons_zero, List.set_cons_succ, List.getElem_toArray, List.getElem_cons_succ, List.getElem_cons_zero]
        clear hS0 hS1 hS2
        go_wp2_with fail
        go_roundw
        case rel => exact ⟨j + 1, by have := HJ.out; omega, by have := HI2.out; go_num, HE5, HU5⟩
        case measure => simp [intOf]; omega
      · obtain rfl : j = kk := by omega
        have HBr := Lib.hid (HBC.out.grow HU.out)
        have g8r : wr.cell? ⟨g, 8, none⟩ = some (.int .i64 nt) := (HU.out.cell (cell_lt g8)).trans g8
        have f8r := HBr.out.cg.fz 8
        have HF9 := Lib.hid (HBr.out.setN (s' := { s with nts := (nn : Int) }) (j := 8) (by decide) (.int .i64 nn) (fun i hi => by match i, hi with | 0, _ | 1, _ | 2, _ | 3, _ | 4, _ | 5, _ | 6, _ | 7, _ | 8, _ => rfl) rfl rfl rfl rfl)
        have HZG := Lib.hid (show g < W1.heap.size from by have := HBW.out; have := HSZ.out; omega)
        have HK9 := Lib.hid (fun (k : Nat) (hk : k ≠ g) => show (wr.setCell ⟨g, 8, none⟩ (.int .i64 nn)).heap[k]? = wr.heap[k]? from Below.heap_setCell wr ⟨g, 8, none⟩ _ k hk)
        clear hlt hj
        cases ro with
        | none =>
          go_upto_region 10 with fail
          clear g8r f8r z2
          obtain ⟨W9, hW9⟩ : ∃ x, wr.setCell ⟨g, 8, none⟩ (.int .i64 nn) = x := ⟨_, rfl⟩
          rw [hW9] at HF9 HK9 ⊢
          clear hW9
          obtain ⟨m, hm⟩ : ∃ m, s'.acc.length = m + 1 := ⟨s'.acc.length - 1, by have := HAC.out rfl; omega⟩
          obtain ⟨ab, aoff, rfl, h0, h1, h2⟩ := HOB.out.acc m (by omega)
          have hga := HOB.out.ga ab aoff rfl
          have hgz := HOB.out.ge
          have hzg := HZG.out
          have hblk := (HK9.out zb (by omega)).trans ((HU.out.block zb (Array.getElem?_eq_some_iff.1 HOB.out.blk).1).trans HOB.out.blk)
          have z0 := cell_of_row W9 zb 0 _ _ _ hblk
          have z1 := cell_of_row W9 zb 1 _ _ _ hblk
          simp only [List.getElem?_toArray, List.getElem?_cons_zero, List.getElem?_cons_succ, hm, Option.isSome_none] at z0 z1
          have a0 := ((tcell (HK9.out ab (by omega))).trans (HU.out.cell (cell_lt h0))).trans h0
          have a1 := ((tcell (HK9.out ab (by omega))).trans (HU.out.cell (cell_lt h1))).trans h1
          have a2 := ((tcell (HK9.out ab (by omega))).trans (HU.out.cell (cell_lt h2))).trans h2
          have HGD := Lib.hid (show s'.acc.getD (s'.acc.length - 1) (0, 0, 0) = s'.acc.getD m (0, 0, 0) by rw [hm]; rfl)
          have hm3 : m < 1000 := by have := HN3.out; omega
          clear h0 h1 h2 hblk hm hga hgz hzg
          obtain ⟨⟨k0, k1, k2⟩, hkq⟩ : ∃ q, s'.acc.getD m (0, 0, 0) = q := ⟨_, rfl⟩
          rw [hkq] at a0 a1 a2 HGD
          dsimp only at a0 a1 a2
          clear hkq
          have hwm : wrap64 (((m + 1 : Nat) : Int) - 1) = (m : Int) := by rw [IntWalk.wrap64_in _ (by omega)]; omega
          have c4 : W9.cell? ⟨g, 4, none⟩ = some (.int .i64 s.acc.1) := HF9.out.cg.cell 4 (by decide)
          have c5 : W9.cell? ⟨g, 5, none⟩ = some (.int .i64 s.acc.2.1) := HF9.out.cg.cell 5 (by decide)
          have c6 : W9.cell? ⟨g, 6, none⟩ = some (.int .i64 s.acc.2.2) := HF9.out.cg.cell 6 (by decide)
          have c7 : W9.cell? ⟨g, 7, none⟩ = some (.int .i64 s.st) := HF9.out.cg.cell 7 (by decide)
          have f4 := HF9.out.cg.fz 4
          have f5 := HF9.out.cg.fz 5
          have f6 := HF9.out.cg.fz 6
          have f7 := HF9.out.cg.fz 7
          have HA4 := Lib.hid (HF9.out.setN (s' := { s with nts := (nn : Int), acc := (k0, s.acc.2.1, s.acc.2.2) }) (j := 4) (by decide) (.int .i64 k0) (fun i hi => by match i, hi with | 0, _ | 1, _ | 2, _ | 3, _ | 4, _ | 5, _ | 6, _ | 7, _ | 8, _ => rfl) rfl rfl rfl rfl)
          have HA5 := Lib.hid (HA4.out.setN (s' := { s with nts := (nn : Int), acc := (k0, k1, s.acc.2.2) }) (j := 5) (by decide) (.int .i64 k1) (fun i hi => by match i, hi with | 0, _ | 1, _ | 2, _ | 3, _ | 4, _ | 5, _ | 6, _ | 7, _ | 8, _ => rfl) rfl rfl rfl rfl)
          have HA6 := Lib.hid (HA5.out.setN (s' := { s with nts := (nn : Int), acc := (k0, k1, k2) }) (j := 6) (by decide) (.int .i64 k2) (fun i hi => by match i, hi with | 0, _ | 1, _ | 2, _ | 3, _ | 4, _ | 5, _ | 6, _ | 7, _ | 8, _ => rfl) rfl rfl rfl rfl)
          have HA7 := Lib.hid (HA6.out.setN (s' := { s with nts := (nn : Int), acc := (k0, k1, k2), st := 1 }) (j := 7) (by decide) (.int .i64 1) (fun i hi => by match i, hi with | 0, _ | 1, _ | 2, _ | 3, _ | 4, _ | 5, _ | 6, _ | 7, _ | 8, _ => rfl) rfl rfl rfl rfl)
          obtain ⟨xs, hxs, hone⟩ := HE.out
          have HXE := Lib.hid (show World.ownsRow ((((W9.setCell ⟨g, 4, none⟩ (.int .i64 k0)).setCell ⟨g, 5, none⟩ (.int .i64 k1)).setCell ⟨g, 6, none⟩ (.int .i64 k2)).setCell ⟨g, 7, none⟩ (.int .i64 1)) w.heap.size 61 7 u9 j xs from by
            have hgo : ∀ k, k ≠ g → ((((W9.setCell ⟨g, 4, none⟩ (.int .i64 k0)).setCell ⟨g, 5, none⟩ (.int .i64 k1)).setCell ⟨g, 6, none⟩ (.int .i64 k2)).setCell ⟨g, 7, none⟩ (.int .i64 1)).heap[k]? = wr.heap[k]? := fun k hk => by
              rw [Below.heap_setCell _ _ _ _ hk, Below.heap_setCell _ _ _ _ hk, Below.heap_setCell _ _ _ _ hk, Below.heap_setCell _ _ _ _ hk]
              exact HK9.out k hk
            refine own_base (own_same hxs fun k e => hgo k (fun e2 => ?_)) ?_
            · have := (hxs.lt k e).1; have := HZG.out; have := HSZ.out; omega
            · have := HSZ.out; have := HQ.out; omega)
          have HON := Lib.hid hone
          have HFR := Lib.hid (fun (k : Nat) (hk : k < w.heap.size) (hg : k ≠ g) => show ((((W9.setCell ⟨g, 4, none⟩ (.int .i64 k0)).setCell ⟨g, 5, none⟩ (.int .i64 k1)).setCell ⟨g, 6, none⟩ (.int .i64 k2)).setCell ⟨g, 7, none⟩ (.int .i64 1)).heap[k]? = w.heap[k]? from by
            rw [Below.heap_setCell _ _ _ _ hg, Below.heap_setCell _ _ _ _ hg, Below.heap_setCell _ _ _ _ hg, Below.heap_setCell _ _ _ _ hg]
            exact (HK9.out k hg).trans ((HU.out.block k (Nat.lt_of_lt_of_le hk HWC.out.size)).trans (HWC.out.block k hk)))
          clear hxs hone HA4 HA5 HA6 HF9 HK9
          go_wp2_with fail
          go_ret
          refine ⟨HFR.out, _, xs, rfl, ?_, HON.out, ?_⟩
          · rw [← HKK.out]; exact HXE.out
          · rw [HGD.out, HNE.out]; exact HA7.out
        | some v0 =>
          go_upto_region 10 with fail
          clear g8r f8r z2
          obtain ⟨W9, hW9⟩ : ∃ x, wr.setCell ⟨g, 8, none⟩ (.int .i64 nn) = x := ⟨_, rfl⟩
          have hs9 : wr.heap.size ≤ W9.heap.size := by rw [← hW9]; simp
          rw [hW9] at HF9 HK9 ⊢
          clear hW9
          have hgz := HOB.out.ge
          have hzg := HZG.out
          have hblk := (HK9.out zb (by omega)).trans ((HU.out.block zb (Array.getElem?_eq_some_iff.1 HOB.out.blk).1).trans HOB.out.blk)
          have z0 := cell_of_row W9 zb 0 _ _ _ hblk
          simp only [List.getElem?_toArray, List.getElem?_cons_zero, List.getElem?_cons_succ, Option.isSome_some] at z0
          have HS9 := Lib.hid (show W9.cell? ⟨q, 0, none⟩ = some (.pointer (some ⟨b, 0, none⟩)) ∧ W9.cell? ⟨q + 1, 0, none⟩ = some (.int .i64 0) ∧ W9.cell? ⟨q + 1 + 1, 0, none⟩ = some (.int .i64 s.next) ∧ W9.cell? ⟨b, 5, none⟩ = some (.int .i64 s.now) from
            have hQ := HQS.out wr HU.out
            ⟨(tcell (HK9.out q (by have := HBW.out; omega))).trans hQ.1, (tcell (HK9.out (q + 1) (by have := HBW.out; omega))).trans hQ.2.1, (tcell (HK9.out (q + 1 + 1) (by have := HBW.out; omega))).trans hQ.2.2.1, HF9.out.cb.cell 5 (by decide)⟩)
          have HBK := Lib.hid hblk
          obtain ⟨xs, hxs, hone⟩ := HE.out
          have hx9 : W9.ownsRow wc.heap.size 61 7 u9 j xs := own_same hxs fun k e => HK9.out k (by have := (hxs.lt k e).1; have := HSZ.out; omega)
          obtain ⟨Ae, ce, rfl, hce, _⟩ := own_form hx9
          have HXS := Lib.hid hx9
          have HONE := Lib.hid hone
          obtain ⟨i0, hi', hz0, hz1, hz2⟩ := info_parts infoEv
          have HIE := Lib.hid hi'
          have HZ0 := Lib.hid hz0
          have HZ1 := Lib.hid hz1
          have HZ2 := Lib.hid hz2
          have HWQ := Lib.hid (show wc.heap.size ≤ W9.heap.size from Nat.le_trans HU.out.size hs9)
          have HJ := Lib.hid (show j ≤ 1000 by omega)
          have HSA := Lib.hid (fun (W : World) (hB : Below wc.heap.size W9 W) => show W.cell? ⟨q, 0, none⟩ = some (.pointer (some ⟨b, 0, none⟩)) ∧ W.cell? ⟨q + 1, 0, none⟩ = some (.int .i64 0) ∧ W.cell? ⟨q + 1 + 1, 0, none⟩ = some (.int .i64 s.next) ∧ W.cell? ⟨b, 5, none⟩ = some (.int .i64 s.now) from
            have hlq : q + 1 + 1 < wc.heap.size := by have := HSZ.out; omega
            ⟨(tcell (hB.block q (by omega))).trans HS9.out.1, (tcell (hB.block (q + 1) (by omega))).trans HS9.out.2.1, (tcell (hB.block (q + 1 + 1) (by omega))).trans HS9.out.2.2.1, (tcell (hB.block b HBC.out.bt)).trans HS9.out.2.2.2⟩)
          have HBA := Lib.hid (show Below wc.heap.size W9 (W9.alloc (.cells #[.int .i64 s.now, .int .i64 2, .int .i64 0, .int .i64 s.next, .int .i64 0, .int .i64 0, .int .i64 val] 61)).drew from (Below.alloc (Below.refl _ _) HWQ.out _).drew)
          clear hx9 hxs hone hi' hz0 hz1 hz2 hblk hgz hzg hs9 hce
          go_wp2_with fail
          clear z0
          have hS : W9.drew.cell? ⟨q, 0, none⟩ = some (.pointer (some ⟨b, 0, none⟩)) ∧ W9.drew.cell? ⟨q + 1, 0, none⟩ = some (.int .i64 0) ∧ W9.drew.cell? ⟨q + 1 + 1, 0, none⟩ = some (.int .i64 s.next) ∧ W9.drew.cell? ⟨b, 5, none⟩ = some (.int .i64 s.now) := HS9.out
          refine wp_region_held_drew (S := fun w' => w'.cell? ⟨q, 0, none⟩ = some (.pointer (some ⟨b, 0, none⟩)) ∧ w'.cell? ⟨q + 1, 0, none⟩ = some (.int .i64 0) ∧ w'.cell? ⟨q + 1 + 1, 0, none⟩ = some (.int .i64 s.next) ∧ w'.cell? ⟨b, 5, none⟩ = some (.int .i64 s.now)) (by kernel_rfl) hS (fun hS0 => ?_)
          clear hS
          refine wpAnyH_take (i := 0) (v := ?_) rfl (by kernel_rfl) (by kernel_rfl) (by kernel_rfl) (fun _ _ _ h => h) (Or.inl ⟨by kernel_rfl, ?_⟩) hS0 ?_
          rotate_left
          · intro w hSw
            try dsimp only at hSw
            go_simp
            try (with_reducible rfl)
          try simp only [Act.put, List.setIfInBounds_toArray, List.set_cons_zero, List.set_cons_succ]
          refine wpAnyH_take (i := 1) (v := ?_) rfl (by kernel_rfl) (by kernel_rfl) (by kernel_rfl) (fun _ _ _ h => h) (Or.inl ⟨by kernel_rfl, ?_⟩) hS0 ?_
          rotate_left
          · intro w hSw
            try dsimp only at hSw
            go_simp
            try (with_reducible rfl)
          try simp only [Act.put, List.setIfInBounds_toArray, List.set_cons_zero, List.set_cons_succ]
          refine wpAnyH_take (i := 2) (v := ?_) rfl (by kernel_rfl) (by kernel_rfl) (by kernel_rfl) (fun _ _ _ h => h) (Or.inl ⟨by kernel_rfl, ?_⟩) hS0 ?_
          rotate_left
          · intro w hSw
            try dsimp only at hSw
            go_simp
            try (with_reducible rfl)
          try simp only [Act.put, List.setIfInBounds_toArray, List.set_cons_zero, List.set_cons_succ]
          refine wpAnyH_take (i := 3) (v := ?_) rfl (by kernel_rfl) (by kernel_rfl) (by kernel_rfl) (fun _ _ _ h => h) (Or.inl ⟨by kernel_rfl, ?_⟩) hS0 ?_
          rotate_left
          · intro w hSw
            try dsimp only at hSw
            go_simp
            try (with_reducible rfl)
          try simp only [Act.put, List.setIfInBounds_toArray, List.set_cons_zero, List.set_cons_succ]
          refine wpAnyH_take (i := 4) (v := ?_) rfl (by kernel_rfl) (by kernel_rfl) (by kernel_rfl) (fun _ _ _ h => h) (Or.inl ⟨by kernel_rfl, ?_⟩) hS0 ?_
          rotate_left
          · intro w hSw
            try dsimp only at hSw
            go_simp
            try (with_reducible rfl)
          try simp only [Act.put, List.setIfInBounds_toArray, List.set_cons_zero, List.set_cons_succ]
          refine wpAnyH_take (i := 5) (v := ?_) rfl (by kernel_rfl) (by kernel_rfl) (by kernel_rfl) (fun _ _ _ h => h) (Or.inl ⟨by kernel_rfl, ?_⟩) hS0 ?_
          rotate_left
          · intro w hSw
            try dsimp only at hSw
            go_simp
            try (with_reducible rfl)
          try simp only [Act.put, List.setIfInBounds_toArray, List.set_cons_zero, List.set_cons_succ]
          refine wpAnyH_take (i := 6) (v := ?_) rfl (by kernel_rfl) (by kernel_rfl) (by kernel_rfl) (fun _ _ _ h => h) (Or.inl ⟨by kernel_rfl, ?_⟩) hS0 ?_
          rotate_left
          · intro w hSw
            try dsimp only at hSw
            go_simp
            try (with_reducible rfl)
          try simp only [Act.put, List.setIfInBounds_toArray, List.set_cons_zero, List.set_cons_succ]
          refine wpAnyH_take (i := 7) (v := ?_) rfl (by kernel_rfl) (by kernel_rfl) (by kernel_rfl) (fun _ _ _ h => h) (Or.inl ⟨by kernel_rfl, ?_⟩) hS0 ?_
          rotate_left
          · intro w hSw
            try dsimp only at hSw
            go_simp
            try (with_reducible rfl)
          try simp only [Act.put, List.setIfInBounds_toArray, List.set_cons_zero, List.set_cons_succ]
          refine wpAnyH_take (i := 8) (v := ?_) rfl (by kernel_rfl) (by kernel_rfl) (by kernel_rfl) (fun _ _ _ h => h) (Or.inl ⟨by kernel_rfl, ?_⟩) hS0 ?_
          rotate_left
          · intro w hSw
            try dsimp only at hSw
            go_simp
            try (with_reducible rfl)
          try simp only [Act.put, List.setIfInBounds_toArray, List.set_cons_zero, List.set_cons_succ]
          refine wpAnyH_take (i := 9) (v := ?_) rfl (by kernel_rfl) (by kernel_rfl) (by kernel_rfl) (fun _ _ _ h => h) (Or.inl ⟨by kernel_rfl, ?_⟩) hS0 ?_
          rotate_left
          · intro w hSw
            try dsimp only at hSw
            go_simp
            try (with_reducible rfl)
          try simp only [Act.put, List.setIfInBounds_toArray, List.set_cons_zero, List.set_cons_succ]
          refine wpAnyH_ready (rs := [10]) (by kernel_rfl) (by simp) ?_
          refine AllReadyH.cons rfl (fun K hK => ?_) AllReadyH.nil
          go_simp
          refine hK.out _ _ (HSA.out _ HBA.out) (fun hS1 => ?_)
          clear hK K
          try simp only [Act.put, List.setIfInBounds_toArray, List.set_cons_zero, List.set_cons_succ]
          refine wpAnyH_ready (rs := [11]) (by kernel_rfl) (by simp) ?_
          refine AllReadyH.cons rfl (fun K hK => ?_) AllReadyH.nil
          refine step_append_lies _ rfl (.tmp 85) (.tmp 95) 23 rfl wc.heap.size 61 i0 (.agg #[.int .i64 0, .int .i64 0, .int .i64 0, .int .i64 0, .int .i64 0, .int .i64 0, .int .i64 0]) 7 56 Try.underlying23 HIE.out HZ0.out HZ1.out HZ2.out rfl (by decide) _ j xs rfl (own_same HXS.out fun k e => ((Up.refl W9).alloc _).drew.block k (HXS.out.lt k e).2) ⟨W9.heap.size, 0, none⟩ 1 1 [.int .i64 s.now, .int .i64 2, .int .i64 0, .int .i64 s.next, .int .i64 0, .int .i64 0, .int .i64 val] rfl rfl (news1 W9 _ _) (by simp [Value.oneCell']) (by decide) (by have := HJ.out; unfold maxLen; omega) (by have := HJ.out; omega) (by have := HWQ.out; simp; omega) _ rfl ?_
          intro g5 cap5 w5 hown5 hg5 hat5 hlt5
          have HB5 := Lib.hid (show Below wc.heap.size W9 w5 from Below.trans HBA.out (grownBy_below hg5 (by have := HWQ.out; simp; omega) (own_ge HXS.out)))
          have HO5 := Lib.hid hown5
          clear hown5 hg5 hat5 hlt5
          refine hK.out _ _ (HSA.out _ HB5.out) (fun hS2 => ?_)
          clear hK K
          try simp only [Act.put, List.setIfInBounds_toArray, List.set_cons_zero, List.set_cons_succ]
          refine wpAnyH_take (i := 12) (v := ?_) rfl (by kernel_rfl) (by kernel_rfl) (by kernel_rfl) (fun _ _ _ h => h) (Or.inl ⟨by kernel_rfl, ?_⟩) hS2 ?_
          rotate_left
          · intro w hSw
            try dsimp only at hSw
            go_simp
            try (with_reducible rfl)
          try simp only [Act.put, List.setIfInBounds_toArray, List.set_cons_zero, List.set_cons_succ]
          refine wpAnyH_done (by kernel_rfl) ?_ _
          try simp only [Act.put, List.setIfInBounds_toArray, List.set_cons_zero, List.set_cons_succ, List.getElem_toArray, List.getElem_cons_succ, List.getElem_cons_zero]
          clear hS0 hS1 hS2
          have HN5 := Lib.hid (HBC.out.below HF9.out HB5.out)
          have hb5 := (HB5.out.block zb (Array.getElem?_eq_some_iff.1 HOB.out.blk).1).trans HBK.out
          have z3 := cell_of_row w5 zb 3 _ _ _ hb5
          simp only [List.getElem?_toArray, List.getElem?_cons_zero, List.getElem?_cons_succ] at z3
          have hrow5 : Row w5 L (shortL s'.loc).length (IVal (shortL s'.loc)) := row_keep HOB.out.loc (fun b' off e hp => by
            have h1 := HOB.out.gl b' off e
            obtain ⟨b2, off2, e2, hc2⟩ := HOB.out.loc 0 hp
            rw [e] at e2
            cases e2
            have h2 := cell_lt hc2
            have h3 := HZG.out
            exact (HB5.out.block b' h2).trans ((HK9.out b' (by omega)).trans (HU.out.block b' h2)))
          have HCL := Lib.hid (clone_any (shortL s'.loc) L e' w5 HOB.out.nil hrow5 HN4.out)
          clear hb5 hrow5
          go_wp2_with fail
          refine HCL.out.mono ?_
          rintro e w6 ⟨v6, rfl, ho6, hu6⟩
          obtain ⟨A6, c6, rfl, _, _⟩ := own_form ho6
          clear z3 HCL
          have HN6 := Lib.hid (HN5.out.grow hu6)
          have ho6' := own_base ho6 (show w0.heap.size ≤ w5.heap.size from HN5.out.sz)
          have hv6 : ∀ k, Value.ownBlock (.slice A6 (shortL s'.loc).length c6) = some k → w5.heap.size ≤ k := fun k e => (ho6.lt k e).1
          have c1' : w6.cell? ⟨g, 1, none⟩ = some (.int .i64 s.next) := HN6.out.cg.cell 1 (by decide)
          have c2' : w6.cell? ⟨g, 2, none⟩ = some vl := HN6.out.cg.cell 2 (by decide)
          have c3' : w6.cell? ⟨g, 3, none⟩ = some va := HN6.out.cg.cell 3 (by decide)
          have c7' : w6.cell? ⟨g, 7, none⟩ = some (.int .i64 s.st) := HN6.out.cg.cell 7 (by decide)
          have c8' : w6.cell? ⟨g, 8, none⟩ = some (.int .i64 nn) := HN6.out.cg.cell 8 (by decide)
          have f1 := HN6.out.cg.fz 1
          have f2 := HN6.out.cg.fz 2
          have f3 := HN6.out.cg.fz 3
          have f7 := HN6.out.cg.fz 7
          have f8 := HN6.out.cg.fz 8
          have HA2 := Lib.hid (HN6.out.setG (s' := { s with nts := (nn : Int), loc := shortL s'.loc }) (va' := va) (vl' := (.slice A6 (shortL s'.loc).length c6)) (j := 2) (by decide) (.slice A6 (shortL s'.loc).length c6) (fun i hi => by match i, hi with | 0, _ | 1, _ | 2, _ | 3, _ | 4, _ | 5, _ | 6, _ | 7, _ | 8, _ => rfl) rfl rfl HN6.out.ra ho6'
            (fun k e => ⟨(HN6.out.am k e).2.2.2.1, fun e2 => by have := hv6 k e2; have := (HN5.out.mlt k e).2; omega⟩)
            (fun k e => ⟨(HN6.out.aa k e).1, (HN6.out.aa k e).2.1, (HN6.out.aa k e).2.2.1, fun e2 => by have := hv6 k e2; have := (HN5.out.ra.lt k e).2; omega⟩)
            (fun k e => ⟨by have := hv6 k e; have := HN5.out.bt; omega, by have := hv6 k e; have := HN5.out.gt; omega, fun hx => by have := hv6 k e; have := (HN5.out.bk.lt k hx).2; omega⟩))
          have HA3 := Lib.hid (HA2.out.setG (s' := { s with nts := (nn : Int), loc := shortL s'.loc, ans := [] }) (va' := .slice none 0 0) (vl' := (.slice A6 (shortL s'.loc).length c6)) (j := 3) (by decide) (.slice none 0 0) (fun i hi => by match i, hi with | 0, _ | 1, _ | 2, _ | 3, _ | 4, _ | 5, _ | 6, _ | 7, _ | 8, _ => rfl) rfl rfl (own_nil _ _ _ _) HA2.out.rl
            (fun k e => ⟨by simp [Value.ownBlock], (HA2.out.am k e).2.2.2.2⟩) (fun k e => by simp [Value.ownBlock] at e) HA2.out.al)
          have HA8 := Lib.hid (HA3.out.setN (s' := { s with nts := 0, loc := shortL s'.loc, ans := [] }) (j := 8) (by decide) (.int .i64 0) (fun i hi => by match i, hi with | 0, _ | 1, _ | 2, _ | 3, _ | 4, _ | 5, _ | 6, _ | 7, _ | 8, _ => rfl) rfl rfl rfl rfl)
          have HA7 := Lib.hid (HA8.out.setN (s' := { s with nts := 0, loc := shortL s'.loc, ans := [], st := 0 }) (j := 7) (by decide) (.int .i64 0) (fun i hi => by match i, hi with | 0, _ | 1, _ | 2, _ | 3, _ | 4, _ | 5, _ | 6, _ | 7, _ | 8, _ => rfl) rfl rfl rfl rfl)
          have HA1 := Lib.hid (HA7.out.setN (s' := { s with nts := 0, loc := shortL s'.loc, ans := [], st := 0, next := wrap64 (s.next + 1) }) (j := 1) (by decide) (.int .i64 (wrap64 (s.next + 1))) (fun i hi => by match i, hi with | 0, _ | 1, _ | 2, _ | 3, _ | 4, _ | 5, _ | 6, _ | 7, _ | 8, _ => rfl) rfl rfl rfl rfl)
          have HGO := Lib.hid (fun (k : Nat) (hk : k ≠ g) => show (((((w6.setCell ⟨g, 2, none⟩ (.slice A6 (shortL s'.loc).length c6)).setCell ⟨g, 3, none⟩ (.slice none 0 0)).setCell ⟨g, 8, none⟩ (.int .i64 0)).setCell ⟨g, 7, none⟩ (.int .i64 0)).setCell ⟨g, 1, none⟩ (.int .i64 (wrap64 (s.next + 1)))).heap[k]? = w6.heap[k]? from by
            rw [Below.heap_setCell _ _ _ _ hk, Below.heap_setCell _ _ _ _ hk, Below.heap_setCell _ _ _ _ hk, Below.heap_setCell _ _ _ _ hk, Below.heap_setCell _ _ _ _ hk])
          have HOF := Lib.hid (own_base (own_same HO5.out fun k e => (HGO.out k (by have h1 := (HO5.out.lt k e).1; have := HZG.out; have := HSZ.out; omega)).trans (hu6.block k (HO5.out.lt k e).2)) (show w.heap.size ≤ wc.heap.size by have := HSZ.out; have := HQ.out; omega))
          have HFR := Lib.hid (fun (k : Nat) (hk : k < w.heap.size) (hg : k ≠ g) => (HGO.out k hg).trans ((hu6.block k (Nat.lt_of_lt_of_le hk (Nat.le_trans HWC.out.size (Nat.le_trans HWQ.out HB5.out.size)))).trans ((HB5.out.block k (Nat.lt_of_lt_of_le hk HWC.out.size)).trans ((HK9.out k hg).trans ((HU.out.block k (Nat.lt_of_lt_of_le hk HWC.out.size)).trans (HWC.out.block k hk))))))
          clear HA2 HA3 HA8 HA7 ho6 ho6' hv6 hu6 HN6 HGO HO5 HN5
          go_wp2_with fail
          go_ret
          refine ⟨HFR.out, _, xs, rfl, ?_, HONE.out, _, HA1.out⟩
          have hv := HVAL.out
          simp only [Option.getD_some] at hv
          rw [← HKK.out, hv]
          exact HOF.out

end Go.Proofs.Ytedkgamecdmjdaa
