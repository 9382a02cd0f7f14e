/-
  Package bench: a bench of one thread in memory, its bank behind it; and that this stays or is told otherwise by stores and appends.
-/
import Derived.Test.YtedkgamecdmjdaaBankK
import Derived.Test.YtedkgamecdmjdaaPlayL
set_option linter.unusedVariables false
set_option linter.unusedSimpArgs false
namespace Go.Proofs.Ytedkgamecdmjdaa
open Go.RowKit

/-- The first n cells of a block. -/
structure Cs (w : World) (b n : Nat) (f : Nat → Value) : Prop where
  cell : ∀ j, j < n → w.cell? ⟨b, j, none⟩ = some (f j)
  fz : ∀ j, w.frozen? ⟨b, j, none⟩ = false
theorem Cs.keep {w w' : World} {b n : Nat} {f : Nat → Value} (H : Cs w b n f) (h : w'.heap[b]? = w.heap[b]?) : Cs w' b n f :=
  ⟨fun j hj => (cellE h).trans (H.cell j hj), fun j => (frozenE h).trans (H.fz j)⟩
theorem Cs.set {w : World} {b n : Nat} {f f' : Nat → Value} (H : Cs w b n f) {j : Nat} (hj : j < n) (v : Value) (hf : ∀ i, i < n → f' i = if i = j then v else f i) : Cs (w.setCell ⟨b, j, none⟩ v) b n f' := by
  refine ⟨fun i hi => ?_, fun i => by simpa [go_sem] using H.fz i⟩
  rw [hf i hi]
  by_cases e : i = j
  · subst e
    rw [if_pos rfl]
    exact World.cell?_setCell_same _ _ _ (H.cell i hi)
  · rw [if_neg e]
    exact (World.cell?_setCell_other _ _ _ _ (by simp <;> omega)).trans (H.cell i hi)
theorem Cs.lt {w : World} {b n : Nat} {f : Nat → Value} (H : Cs w b n f) (hn : 0 < n) : b < w.heap.size := cell_lt (H.cell 0 hn)

/-- A bench of one thread. -/
structure TB where
  many : Int
  next : Int
  loc : List Int
  ans : List Int
  acc : Int × Int × Int
  st : Int
  nts : Int
  now : Int
  ms : Nat
def bF (h g c1 : Nat) (f : Value) (now : Int) (vm : Value) : Nat → Value
  | 0 => .pointer (some ⟨h, 0, none⟩)
  | 1 => .slice (some ⟨g, 0, none⟩) 1 c1
  | 2 => f
  | 3 => .slice none 0 0
  | 4 => .int .i64 0
  | 5 => .int .i64 now
  | _ => vm
def gF (s : TB) (va vl : Value) : Nat → Value
  | 0 => .int .i64 s.many
  | 1 => .int .i64 s.next
  | 2 => vl
  | 3 => va
  | 4 => .int .i64 s.acc.1
  | 5 => .int .i64 s.acc.2.1
  | 6 => .int .i64 s.acc.2.2
  | 7 => .int .i64 s.st
  | _ => .int .i64 s.nts

structure Ben (w0 w : World) (b g h c1 : Nat) (f : Value) (l : List SD) (s : TB) (u : BS) (N : Nat) (vm va vl : Value) (X : Nat → Prop) : Prop where
  up : Up w0 w
  cb : Cs w b 7 (bF h g c1 f s.now vm)
  cg : Cs w g 9 (gF s va vl)
  rm : ∃ xs, w.ownsRow w0.heap.size 65 4 vm s.ms xs ∧ ∀ u ∈ xs, u.oneCell' = true
  ra : w.ownsRow w0.heap.size 3 1 va s.ans.length (icells s.ans)
  rl : w.ownsRow w0.heap.size 3 1 vl s.loc.length (icells s.loc)
  ge : w0.heap.size ≤ b ∧ w0.heap.size ≤ g
  bg : b ≠ g
  nx : ¬ X b ∧ ¬ X g
  am : ∀ k, vm.ownBlock = some k → k ≠ b ∧ k ≠ g ∧ ¬ X k ∧ va.ownBlock ≠ some k ∧ vl.ownBlock ≠ some k
  aa : ∀ k, va.ownBlock = some k → k ≠ b ∧ k ≠ g ∧ ¬ X k ∧ vl.ownBlock ≠ some k
  al : ∀ k, vl.ownBlock = some k → k ≠ b ∧ k ≠ g ∧ ¬ X k
  bk : BankM w w0.heap.size h l u N X

section
variable {w0 w w' : World} {b g h c1 : Nat} {f : Value} {l : List SD} {s s' : TB} {u u' : BS} {N N' : Nat} {vm va vl va' vl' : Value} {X : Nat → Prop}
theorem Ben.gt (H : Ben w0 w b g h c1 f l s u N vm va vl X) : g < w.heap.size := H.cg.lt (by decide)
theorem Ben.bt (H : Ben w0 w b g h c1 f l s u N vm va vl X) : b < w.heap.size := H.cb.lt (by decide)
theorem Ben.sz (H : Ben w0 w b g h c1 f l s u N vm va vl X) : w0.heap.size ≤ w.heap.size := H.up.size
theorem Ben.mlt (H : Ben w0 w b g h c1 f l s u N vm va vl X) : ∀ k, vm.ownBlock = some k → w0.heap.size ≤ k ∧ k < w.heap.size := fun k e => by
  obtain ⟨xs, hx, h1⟩ := H.rm
  exact hx.lt k e
theorem Ben.keep (H : Ben w0 w b g h c1 f l s u N vm va vl X) (U : Up w0 w') (hs : w.heap.size ≤ w'.heap.size)
    (hk : ∀ k, k < w.heap.size → (k = b ∨ k = g ∨ vm.ownBlock = some k ∨ va.ownBlock = some k ∨ vl.ownBlock = some k ∨ X k) → w'.heap[k]? = w.heap[k]?) : Ben w0 w' b g h c1 f l s u N vm va vl X where
  up := U
  cb := H.cb.keep (hk b H.bt (.inl rfl))
  cg := H.cg.keep (hk g H.gt (.inr (.inl rfl)))
  rm := by
    obtain ⟨xs, hx, h1⟩ := H.rm
    exact ⟨xs, own_same hx fun k e => hk k (hx.lt k e).2 (.inr (.inr (.inl e))), h1⟩
  ra := own_same H.ra fun k e => hk k (H.ra.lt k e).2 (.inr (.inr (.inr (.inl e))))
  rl := own_same H.rl fun k e => hk k (H.rl.lt k e).2 (.inr (.inr (.inr (.inr (.inl e)))))
  ge := H.ge
  bg := H.bg
  nx := H.nx
  am := H.am
  aa := H.aa
  al := H.al
  bk := H.bk.keep hs fun k hx => hk k (H.bk.lt k hx).2 (.inr (.inr (.inr (.inr (.inr hx)))))
theorem Ben.grow (H : Ben w0 w b g h c1 f l s u N vm va vl X) (U : Up w w') : Ben w0 w' b g h c1 f l s u N vm va vl X :=
  H.keep (H.up.trans U) U.size fun k hk _ => U.block k hk
/-- A call on the bank. -/
theorem Ben.bank (H : Ben w0 w b g h c1 f l s u N vm va vl X) (F : Fr w w' X) (B : BankM w' w0.heap.size h l u' N' (XG X w w')) : Ben w0 w' b g h c1 f l s u' N' vm va vl (XG X w w') := by
  have hX : ∀ k, k < w.heap.size → ¬ X k → ¬ XG X w w' k := fun k hk hn hx => hx.elim hn (fun e => by omega)
  refine ⟨F.toUp H.up (fun k hk => (H.bk.lt k hk).1), H.cb.keep (F.block b H.bt H.nx.1), H.cg.keep (F.block g H.gt H.nx.2), ?_, own_same H.ra fun k e => F.block k (H.ra.lt k e).2 (H.aa k e).2.2.1, own_same H.rl fun k e => F.block k (H.rl.lt k e).2 (H.al k e).2.2, H.ge, H.bg, ⟨hX _ H.bt H.nx.1, hX _ H.gt H.nx.2⟩, fun k e => ?_, fun k e => ?_, fun k e => ?_, B⟩
  · obtain ⟨xs, hx, h1⟩ := H.rm
    exact ⟨xs, own_same hx fun k e => F.block k (hx.lt k e).2 (H.am k e).2.2.1, h1⟩
  · obtain ⟨p1, p2, p3, p4, p5⟩ := H.am k e
    exact ⟨p1, p2, hX k (H.mlt k e).2 p3, p4, p5⟩
  · obtain ⟨p1, p2, p3, p4⟩ := H.aa k e
    exact ⟨p1, p2, hX k (H.ra.lt k e).2 p3, p4⟩
  · obtain ⟨p1, p2, p3⟩ := H.al k e
    exact ⟨p1, p2, hX k (H.rl.lt k e).2 p3⟩
/-- A store into the thread. -/
theorem Ben.setG (H : Ben w0 w b g h c1 f l s u N vm va vl X) {j : Nat} (hj : j < 9) (v : Value) (hf : ∀ i, i < 9 → gF s' va' vl' i = if i = j then v else gF s va vl i) (e1 : s'.now = s.now) (e2 : s'.ms = s.ms)
    (ra : w.ownsRow w0.heap.size 3 1 va' s'.ans.length (icells s'.ans)) (rl : w.ownsRow w0.heap.size 3 1 vl' s'.loc.length (icells s'.loc))
    (am : ∀ k, vm.ownBlock = some k → va'.ownBlock ≠ some k ∧ vl'.ownBlock ≠ some k)
    (aa : ∀ k, va'.ownBlock = some k → k ≠ b ∧ k ≠ g ∧ ¬ X k ∧ vl'.ownBlock ≠ some k) (al : ∀ k, vl'.ownBlock = some k → k ≠ b ∧ k ≠ g ∧ ¬ X k) :
    Ben w0 (w.setCell ⟨g, j, none⟩ v) b g h c1 f l s' u N vm va' vl' X := by
  have hk : ∀ k, k ≠ g → (w.setCell ⟨g, j, none⟩ v).heap[k]? = w.heap[k]? := fun k hne => Below.heap_setCell w ⟨g, j, none⟩ v k hne
  refine ⟨H.up.setCell (p := ⟨g, j, none⟩) H.ge.2 v, by rw [e1]; exact H.cb.keep (hk b H.bg), H.cg.set hj v hf, ?_, own_same ra fun k e => hk k (aa k e).2.1, own_same rl fun k e => hk k (al k e).2.1, H.ge, H.bg, H.nx, fun k e => ?_, aa, al, H.bk.keep (by simp) fun k hx => hk k (fun e => H.nx.2 (e ▸ hx))⟩
  · obtain ⟨xs, hx, h1⟩ := H.rm
    rw [e2]
    exact ⟨xs, own_same hx fun k e => hk k (H.am k e).2.1, h1⟩
  · obtain ⟨p1, p2, p3, p4, p5⟩ := H.am k e
    exact ⟨p1, p2, p3, am k e⟩
/-- A store of a number into the thread. -/
theorem Ben.setN (H : Ben w0 w b g h c1 f l s u N vm va vl X) {j : Nat} (hj : j < 9) (v : Value) (hf : ∀ i, i < 9 → gF s' va vl i = if i = j then v else gF s va vl i) (e1 : s'.now = s.now) (e2 : s'.ms = s.ms) (e3 : s'.ans = s.ans) (e4 : s'.loc = s.loc) :
    Ben w0 (w.setCell ⟨g, j, none⟩ v) b g h c1 f l s' u N vm va vl X :=
  H.setG hj v hf e1 e2 (by rw [e3]; exact H.ra) (by rw [e4]; exact H.rl) (fun k e => (H.am k e).2.2.2) H.aa H.al
theorem Ben.setNow (H : Ben w0 w b g h c1 f l s u N vm va vl X) (n : Int) : Ben w0 (w.setCell ⟨b, 5, none⟩ (.int .i64 n)) b g h c1 f l { s with now := n } u N vm va vl X := by
  have hk : ∀ k, k ≠ b → (w.setCell ⟨b, 5, none⟩ (.int .i64 n)).heap[k]? = w.heap[k]? := fun k hne => Below.heap_setCell w ⟨b, 5, none⟩ _ k hne
  refine ⟨H.up.setCell (p := ⟨b, 5, none⟩) H.ge.1 _, H.cb.set (by decide) _ (fun i hi => ?_), H.cg.keep (hk g H.bg.symm), ?_, own_same H.ra fun k e => hk k (H.aa k e).1, own_same H.rl fun k e => hk k (H.al k e).1, H.ge, H.bg, H.nx, H.am, H.aa, H.al, H.bk.keep (by simp) fun k hx => hk k (fun e => H.nx.1 (e ▸ hx))⟩
  · match i, hi with
    | 0, _ | 1, _ | 2, _ | 3, _ | 4, _ | 5, _ | 6, _ => rfl
  · obtain ⟨xs, hx, h1⟩ := H.rm
    exact ⟨xs, own_same hx fun k e => hk k (H.am k e).1, h1⟩
/-- An answer more. -/
theorem Ben.growA {w1 : World} {g1 cap : Nat} {x : Int} (H : Ben w0 w b g h c1 f l s u N vm va vl X) (G : w.grownBy w1 va.ownBlock) (O : w1.ownsRow w0.heap.size 3 1 (.slice (some ⟨g1, 0, none⟩) (s.ans.length + 1) cap) (s.ans.length + 1) (icells s.ans ++ [.int .i64 x])) (hat : va.ownBlock = some g1 ∨ w.heap.size ≤ g1) :
    w1.cell? ⟨g, 3, none⟩ = some va ∧ w1.frozen? ⟨g, 3, none⟩ = false ∧ Ben w0 (w1.setCell ⟨g, 3, none⟩ (.slice (some ⟨g1, 0, none⟩) (s.ans.length + 1) cap)) b g h c1 f l { s with ans := s.ans ++ [x] } u N vm (.slice (some ⟨g1, 0, none⟩) (s.ans.length + 1) cap) vl X := by
  have hk : ∀ k, k < w.heap.size → va.ownBlock ≠ some k → w1.heap[k]? = w.heap[k]? := fun k hk hne => G.block k hk (fun e => hne e.symm)
  have hk2 : ∀ k, k < w.heap.size → k ≠ g → va.ownBlock ≠ some k → (w1.setCell ⟨g, 3, none⟩ (.slice (some ⟨g1, 0, none⟩) (s.ans.length + 1) cap)).heap[k]? = w.heap[k]? := fun k hk1 hg hne => (Below.heap_setCell w1 ⟨g, 3, none⟩ _ k hg).trans (hk k hk1 hne)
  have hg1 := hk g H.gt (fun e => (H.aa g e).2.1 rfl)
  have hnew : ∀ k, Value.ownBlock (.slice (some ⟨g1, 0, none⟩) (s.ans.length + 1) cap) = some k → va.ownBlock = some k ∨ w.heap.size ≤ k := fun k e => by
    simp only [Value.ownBlock, Option.some.injEq] at e
    subst e; exact hat
  have hU : Up w0 w1 := Below.trans H.up (grownBy_below G H.sz (own_ge H.ra))
  refine ⟨(cellE hg1).trans (H.cg.cell 3 (by decide)), (frozenE hg1).trans (H.cg.fz 3), hU.setCell (p := ⟨g, 3, none⟩) H.ge.2 _, H.cb.keep (hk2 b H.bt H.bg (fun e => (H.aa b e).1 rfl)), (H.cg.keep hg1).set (by decide) _ (fun i hi => ?_), ?_, ?_, own_same H.rl fun k e => hk2 k (H.rl.lt k e).2 (H.al k e).2.1 (fun e2 => (H.aa k e2).2.2.2 e), H.ge, H.bg, H.nx, fun k e => ?_, fun k e => ?_, H.al, H.bk.keep (by simpa using G.size) fun k hx => hk2 k (H.bk.lt k hx).2 (fun e => H.nx.2 (e ▸ hx)) (fun e => (H.aa k e).2.2.1 hx)⟩
  · match i, hi with
    | 0, _ | 1, _ | 2, _ | 3, _ | 4, _ | 5, _ | 6, _ | 7, _ | 8, _ => rfl
  · obtain ⟨xs, hx, h1⟩ := H.rm
    exact ⟨xs, own_same hx fun k e => hk2 k (hx.lt k e).2 (H.am k e).2.1 (H.am k e).2.2.2.1, h1⟩
  · have e1 : (s.ans ++ [x]).length = s.ans.length + 1 := by simp
    have e2 : icells (s.ans ++ [x]) = icells s.ans ++ [.int .i64 x] := by unfold icells; simp
    show World.ownsRow _ _ _ _ _ (s.ans ++ [x]).length (icells (s.ans ++ [x]))
    rw [e1, e2]
    refine own_same O fun k e => Below.heap_setCell w1 ⟨g, 3, none⟩ _ k (fun e2 => ?_)
    have e2 : k = g := e2
    rcases hnew k e with h1 | h1
    · exact (H.aa k h1).2.1 e2
    · have := H.gt; omega
  · obtain ⟨p1, p2, p3, p4, p5⟩ := H.am k e
    refine ⟨p1, p2, p3, fun e3 => ?_, p5⟩
    rcases hnew k e3 with h1 | h1
    · exact p4 h1
    · have := (H.mlt k e).2; omega
  · rcases hnew k e with h1 | h1
    · exact H.aa k h1
    · exact ⟨by have := H.bt; omega, by have := H.gt; omega, fun hx => by have := (H.bk.lt k hx).2; omega, fun e3 => by have := (H.rl.lt k e3).2; omega⟩
/-- A mark more. -/
theorem Ben.growM {w1 : World} {g1 cap : Nat} {ys : List Value} (H : Ben w0 w b g h c1 f l s u N vm va vl X) (G : w.grownBy w1 vm.ownBlock) (O : w1.ownsRow w0.heap.size 65 4 (.slice (some ⟨g1, 0, none⟩) (s.ms + 1) cap) (s.ms + 1) ys) (hys : ∀ u ∈ ys, u.oneCell' = true) (hat : vm.ownBlock = some g1 ∨ w.heap.size ≤ g1) :
    w1.cell? ⟨b, 6, none⟩ = some vm ∧ w1.frozen? ⟨b, 6, none⟩ = false ∧ Ben w0 (w1.setCell ⟨b, 6, none⟩ (.slice (some ⟨g1, 0, none⟩) (s.ms + 1) cap)) b g h c1 f l { s with ms := s.ms + 1 } u N (.slice (some ⟨g1, 0, none⟩) (s.ms + 1) cap) va vl X := by
  have hk : ∀ k, k < w.heap.size → vm.ownBlock ≠ some k → w1.heap[k]? = w.heap[k]? := fun k hk hne => G.block k hk (fun e => hne e.symm)
  have hk2 : ∀ k, k < w.heap.size → k ≠ b → vm.ownBlock ≠ some k → (w1.setCell ⟨b, 6, none⟩ (.slice (some ⟨g1, 0, none⟩) (s.ms + 1) cap)).heap[k]? = w.heap[k]? := fun k hk1 hg hne => (Below.heap_setCell w1 ⟨b, 6, none⟩ _ k hg).trans (hk k hk1 hne)
  have hb1 := hk b H.bt (fun e => (H.am b e).1 rfl)
  have hnew : ∀ k, Value.ownBlock (.slice (some ⟨g1, 0, none⟩) (s.ms + 1) cap) = some k → vm.ownBlock = some k ∨ w.heap.size ≤ k := fun k e => by
    simp only [Value.ownBlock, Option.some.injEq] at e
    subst e; exact hat
  have hU : Up w0 w1 := Below.trans H.up (grownBy_below G H.sz (fun k e => (H.mlt k e).1))
  refine ⟨(cellE hb1).trans (H.cb.cell 6 (by decide)), (frozenE hb1).trans (H.cb.fz 6), hU.setCell (p := ⟨b, 6, none⟩) H.ge.1 _, (H.cb.keep hb1).set (by decide) _ (fun i hi => ?_), H.cg.keep (hk2 g H.gt H.bg.symm (fun e => (H.am g e).2.1 rfl)), ⟨ys, ?_, hys⟩, own_same H.ra fun k e => hk2 k (H.ra.lt k e).2 (H.aa k e).1 (fun e2 => (H.am k e2).2.2.2.1 e), own_same H.rl fun k e => hk2 k (H.rl.lt k e).2 (H.al k e).1 (fun e2 => (H.am k e2).2.2.2.2 e), H.ge, H.bg, H.nx, fun k e => ?_, H.aa, H.al, H.bk.keep (by simpa using G.size) fun k hx => hk2 k (H.bk.lt k hx).2 (fun e => H.nx.1 (e ▸ hx)) (fun e => (H.am k e).2.2.1 hx)⟩
  · match i, hi with
    | 0, _ | 1, _ | 2, _ | 3, _ | 4, _ | 5, _ | 6, _ => rfl
  · refine own_same O fun k e => Below.heap_setCell w1 ⟨b, 6, none⟩ _ k (fun e2 => ?_)
    have e2 : k = b := e2
    rcases hnew k e with h1 | h1
    · exact (H.am k h1).1 e2
    · have := H.bt; omega
  · rcases hnew k e with h1 | h1
    · exact H.am k h1
    · exact ⟨by have := H.bt; omega, by have := H.gt; omega, fun hx => by have := (H.bk.lt k hx).2; omega, fun e3 => by have := (H.ra.lt k e3).2; omega, fun e3 => by have := (H.rl.lt k e3).2; omega⟩
end

end Go.Proofs.Ytedkgamecdmjdaa
