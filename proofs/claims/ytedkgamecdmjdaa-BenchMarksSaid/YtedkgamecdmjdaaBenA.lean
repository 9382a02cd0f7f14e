/-
  Package bench: a bench of one thread in memory, its bank behind it; and that this stays or is told otherwise by stores and appends.
-/
import Derived.Test.YtedkgamecdmjdaaBankK
import Derived.Test.YtedkgamecdmjdaaPlayL
import Derived.Deep.RegionLaw
import Derived.Deep.RegionHeld3
set_option linter.unusedVariables false
set_option linter.unusedSimpArgs false
namespace Go.Proofs.Ytedkgamecdmjdaa
open Go.RowKit

/-- The first n cells of a block. -/
structure Cs (w : World) (b n : Nat) (f : Nat → Value) : Prop where
  cell : ∀ j, j < n → w.cell? ⟨b, j, none⟩ = some (f j)
  fz : ∀ j, w.frozen? ⟨b, j, none⟩ = false
theorem Cs.keep {w w' : World} {b n : Nat} {f : Nat → Value} (H : Cs w b n f) (h : w'.heap[b]? = w.heap[b]?) : Cs w' b n f :=
  ⟨fun j hj => (cellE h).trans (H.cell j hj), fun j => (frozenE h).trans (H.fz j)⟩
theorem Cs.set {w : World} {b n : Nat} {f f' : Nat → Value} (H : Cs w b n f) {j : Nat} (hj : j < n) (v : Value) (hf : ∀ i, i < n → f' i = if i = j then v else f i) : Cs (w.setCell ⟨b, j, none⟩ v) b n f' := by
  refine ⟨fun i hi => ?_, fun i => by simpa [go_sem] using H.fz i⟩
  rw [hf i hi]
  by_cases e : i = j
  · subst e
    rw [if_pos rfl]
    exact World.cell?_setCell_same _ _ _ (H.cell i hi)
  · rw [if_neg e]
    exact (World.cell?_setCell_other _ _ _ _ (by simp <;> omega)).trans (H.cell i hi)
theorem Cs.lt {w : World} {b n : Nat} {f : Nat → Value} (H : Cs w b n f) (hn : 0 < n) : b < w.heap.size := cell_lt (H.cell 0 hn)

/-- A bench of one thread. -/
structure TB where
  many : Int
  next : Int
  loc : List Int
  ans : List Int
  acc : Int × Int × Int
  st : Int
  nts : Int
  now : Int
  ms : Nat
def bF (h g c1 : Nat) (f : Value) (now : Int) (vm : Value) : Nat → Value
  | 0 => .pointer (some ⟨h, 0, none⟩)
  | 1 => .slice (some ⟨g, 0, none⟩) 1 c1
  | 2 => f
  | 3 => .slice none 0 0
  | 4 => .int .i64 0
  | 5 => .int .i64 now
  | _ => vm
def gF (s : TB) (va vl : Value) : Nat → Value
  | 0 => .int .i64 s.many
  | 1 => .int .i64 s.next
  | 2 => vl
  | 3 => va
  | 4 => .int .i64 s.acc.1
  | 5 => .int .i64 s.acc.2.1
  | 6 => .int .i64 s.acc.2.2
  | 7 => .int .i64 s.st
  | _ => .int .i64 s.nts

structure Ben (w0 w : World) (b g h c1 : Nat) (f : Value) (l : List SD) (s : TB) (u : BS) (N : Nat) (vm va vl : Value) (X : Nat → Prop) : Prop where
  up : Up w0 w
  cb : Cs w b 7 (bF h g c1 f s.now vm)
  cg : Cs w g 9 (gF s va vl)
  rm : ∃ xs, w.ownsRow w0.heap.size 65 4 vm s.ms xs ∧ ∀ u ∈ xs, u.oneCell' = true
  ra : w.ownsRow w0.heap.size 3 1 va s.ans.length (icells s.ans)
  rl : w.ownsRow w0.heap.size 3 1 vl s.loc.length (icells s.loc)
  ge : w0.heap.size ≤ b ∧ w0.heap.size ≤ g
  bg : b ≠ g
  nx : ¬ X b ∧ ¬ X g
  am : ∀ k, vm.ownBlock = some k → k ≠ b ∧ k ≠ g ∧ ¬ X k ∧ va.ownBlock ≠ some k ∧ vl.ownBlock ≠ some k
  aa : ∀ k, va.ownBlock = some k → k ≠ b ∧ k ≠ g ∧ ¬ X k ∧ vl.ownBlock ≠ some k
  al : ∀ k, vl.ownBlock = some k → k ≠ b ∧ k ≠ g ∧ ¬ X k
  bk : BankM w w0.heap.size h l u N X

section
variable {w0 w w' : World} {b g h c1 : Nat} {f : Value} {l : List SD} {s s' : TB} {u u' : BS} {N N' : Nat} {vm va vl va' vl' : Value} {X : Nat → Prop}
theorem Ben.gt (H : Ben w0 w b g h c1 f l s u N vm va vl X) : g < w.heap.size := H.cg.lt (by decide)
theorem Ben.bt (H : Ben w0 w b g h c1 f l s u N vm va vl X) : b < w.heap.size := H.cb.lt (by decide)
theorem Ben.sz (H : Ben w0 w b g h c1 f l s u N vm va vl X) : w0.heap.size ≤ w.heap.size := H.up.size
theorem Ben.mlt (H : Ben w0 w b g h c1 f l s u N vm va vl X) : ∀ k, vm.ownBlock = some k → w0.heap.size ≤ k ∧ k < w.heap.size := fun k e => by
  obtain ⟨xs, hx, h1⟩ := H.rm
  exact hx.lt k e
theorem Ben.keep (H : Ben w0 w b g h c1 f l s u N vm va vl X) (U : Up w0 w') (hs : w.heap.size ≤ w'.heap.size)
    (hk : ∀ k, k < w.heap.size → (k = b ∨ k = g ∨ vm.ownBlock = some k ∨ va.ownBlock = some k ∨ vl.ownBlock = some k ∨ X k) → w'.heap[k]? = w.heap[k]?) : Ben w0 w' b g h c1 f l s u N vm va vl X where
  up := U
  cb := H.cb.keep (hk b H.bt (.inl rfl))
  cg := H.cg.keep (hk g H.gt (.inr (.inl rfl)))
  rm := by
    obtain ⟨xs, hx, h1⟩ := H.rm
    exact ⟨xs, own_same hx fun k e => hk k (hx.lt k e).2 (.inr (.inr (.inl e))), h1⟩
  ra := own_same H.ra fun k e => hk k (H.ra.lt k e).2 (.inr (.inr (.inr (.inl e))))
  rl := own_same H.rl fun k e => hk k (H.rl.lt k e).2 (.inr (.inr (.inr (.inr (.inl e)))))
  ge := H.ge
  bg := H.bg
  nx := H.nx
  am := H.am
  aa := H.aa
  al := H.al
  bk := H.bk.keep hs fun k hx => hk k (H.bk.lt k hx).2 (.inr (.inr (.inr (.inr (.inr hx)))))
theorem Ben.grow (H : Ben w0 w b g h c1 f l s u N vm va vl X) (U : Up w w') : Ben w0 w' b g h c1 f l s u N vm va vl X :=
  H.keep (H.up.trans U) U.size fun k hk _ => U.block k hk
/-- A call on the bank. -/
theorem Ben.bank (H : Ben w0 w b g h c1 f l s u N vm va vl X) (F : Fr w w' X) (B : BankM w' w0.heap.size h l u' N' (XG X w w')) : Ben w0 w' b g h c1 f l s u' N' vm va vl (XG X w w') := by
  have hX : ∀ k, k < w.heap.size → ¬ X k → ¬ XG X w w' k := fun k hk hn hx => hx.elim hn (fun e => by omega)
  refine ⟨F.toUp H.up (fun k hk => (H.bk.lt k hk).1), H.cb.keep (F.block b H.bt H.nx.1), H.cg.keep (F.block g H.gt H.nx.2), ?_, own_same H.ra fun k e => F.block k (H.ra.lt k e).2 (H.aa k e).2.2.1, own_same H.rl fun k e => F.block k (H.rl.lt k e).2 (H.al k e).2.2, H.ge, H.bg, ⟨hX _ H.bt H.nx.1, hX _ H.gt H.nx.2⟩, fun k e => ?_, fun k e => ?_, fun k e => ?_, B⟩
  · obtain ⟨xs, hx, h1⟩ := H.rm
    exact ⟨xs, own_same hx fun k e => F.block k (hx.lt k e).2 (H.am k e).2.2.1, h1⟩
  · obtain ⟨p1, p2, p3, p4, p5⟩ := H.am k e
    exact ⟨p1, p2, hX k (H.mlt k e).2 p3, p4, p5⟩
  · obtain ⟨p1, p2, p3, p4⟩ := H.aa k e
    exact ⟨p1, p2, hX k (H.ra.lt k e).2 p3, p4⟩
  · obtain ⟨p1, p2, p3⟩ := H.al k e
    exact ⟨p1, p2, hX k (H.rl.lt k e).2 p3⟩
/-- A store into the thread. -/
theorem Ben.setG (H : Ben w0 w b g h c1 f l s u N vm va vl X) {j : Nat} (hj : j < 9) (v : Value) (hf : ∀ i, i < 9 → gF s' va' vl' i = if i = j then v else gF s va vl i) (e1 : s'.now = s.now) (e2 : s'.ms = s.ms)
    (ra : w.ownsRow w0.heap.size 3 1 va' s'.ans.length (icells s'.ans)) (rl : w.ownsRow w0.heap.size 3 1 vl' s'.loc.length (icells s'.loc))
    (am : ∀ k, vm.ownBlock = some k → va'.ownBlock ≠ some k ∧ vl'.ownBlock ≠ some k)
    (aa : ∀ k, va'.ownBlock = some k → k ≠ b ∧ k ≠ g ∧ ¬ X k ∧ vl'.ownBlock ≠ some k) (al : ∀ k, vl'.ownBlock = some k → k ≠ b ∧ k ≠ g ∧ ¬ X k) :
    Ben w0 (w.setCell ⟨g, j, none⟩ v) b g h c1 f l s' u N vm va' vl' X := by
  have hk : ∀ k, k ≠ g → (w.setCell ⟨g, j, none⟩ v).heap[k]? = w.heap[k]? := fun k hne => Below.heap_setCell w ⟨g, j, none⟩ v k hne
  refine ⟨H.up.setCell (p := ⟨g, j, none⟩) H.ge.2 v, by rw [e1]; exact H.cb.keep (hk b H.bg), H.cg.set hj v hf, ?_, own_same ra fun k e => hk k (aa k e).2.1, own_same rl fun k e => hk k (al k e).2.1, H.ge, H.bg, H.nx, fun k e => ?_, aa, al, H.bk.keep (by simp) fun k hx => hk k (fun e => H.nx.2 (e ▸ hx))⟩
  · obtain ⟨xs, hx, h1⟩ := H.rm
    rw [e2]
    exact ⟨xs, own_same hx fun k e => hk k (H.am k e).2.1, h1⟩
  · obtain ⟨p1, p2, p3, p4, p5⟩ := H.am k e
    exact ⟨p1, p2, p3, am k e⟩
/-- A store of a number into the thread. -/
theorem Ben.setN (H : Ben w0 w b g h c1 f l s u N vm va vl X) {j : Nat} (hj : j < 9) (v : Value) (hf : ∀ i, i < 9 → gF s' va vl i = if i = j then v else gF s va vl i) (e1 : s'.now = s.now) (e2 : s'.ms = s.ms) (e3 : s'.ans = s.ans) (e4 : s'.loc = s.loc) :
    Ben w0 (w.setCell ⟨g, j, none⟩ v) b g h c1 f l s' u N vm va vl X :=
  H.setG hj v hf e1 e2 (by rw [e3]; exact H.ra) (by rw [e4]; exact H.rl) (fun k e => (H.am k e).2.2.2) H.aa H.al
theorem Ben.setNow (H : Ben w0 w b g h c1 f l s u N vm va vl X) (n : Int) : Ben w0 (w.setCell ⟨b, 5, none⟩ (.int .i64 n)) b g h c1 f l { s with now := n } u N vm va vl X := by
  have hk : ∀ k, k ≠ b → (w.setCell ⟨b, 5, none⟩ (.int .i64 n)).heap[k]? = w.heap[k]? := fun k hne => Below.heap_setCell w ⟨b, 5, none⟩ _ k hne
  refine ⟨H.up.setCell (p := ⟨b, 5, none⟩) H.ge.1 _, H.cb.set (by decide) _ (fun i hi => ?_), H.cg.keep (hk g H.bg.symm), ?_, own_same H.ra fun k e => hk k (H.aa k e).1, own_same H.rl fun k e => hk k (H.al k e).1, H.ge, H.bg, H.nx, H.am, H.aa, H.al, H.bk.keep (by simp) fun k hx => hk k (fun e => H.nx.1 (e ▸ hx))⟩
  · match i, hi with
    | 0, _ | 1, _ | 2, _ | 3, _ | 4, _ | 5, _ | 6, _ => rfl
  · obtain ⟨xs, hx, h1⟩ := H.rm
    exact ⟨xs, own_same hx fun k e => hk k (H.am k e).1, h1⟩
/-- An answer more. -/
theorem Ben.growA {w1 : World} {g1 cap : Nat} {x : Int} (H : Ben w0 w b g h c1 f l s u N vm va vl X) (G : w.grownBy w1 va.ownBlock) (O : w1.ownsRow w0.heap.size 3 1 (.slice (some ⟨g1, 0, none⟩) (s.ans.length + 1) cap) (s.ans.length + 1) (icells s.ans ++ [.int .i64 x])) (hat : va.ownBlock = some g1 ∨ w.heap.size ≤ g1) :
    w1.cell? ⟨g, 3, none⟩ = some va ∧ w1.frozen? ⟨g, 3, none⟩ = false ∧ Ben w0 (w1.setCell ⟨g, 3, none⟩ (.slice (some ⟨g1, 0, none⟩) (s.ans.length + 1) cap)) b g h c1 f l { s with ans := s.ans ++ [x] } u N vm (.slice (some ⟨g1, 0, none⟩) (s.ans.length + 1) cap) vl X := by
  have hk : ∀ k, k < w.heap.size → va.ownBlock ≠ some k → w1.heap[k]? = w.heap[k]? := fun k hk hne => G.block k hk (fun e => hne e.symm)
  have hk2 : ∀ k, k < w.heap.size → k ≠ g → va.ownBlock ≠ some k → (w1.setCell ⟨g, 3, none⟩ (.slice (some ⟨g1, 0, none⟩) (s.ans.length + 1) cap)).heap[k]? = w.heap[k]? := fun k hk1 hg hne => (Below.heap_setCell w1 ⟨g, 3, none⟩ _ k hg).trans (hk k hk1 hne)
  have hg1 := hk g H.gt (fun e => (H.aa g e).2.1 rfl)
  have hnew : ∀ k, Value.ownBlock (.slice (some ⟨g1, 0, none⟩) (s.ans.length + 1) cap) = some k → va.ownBlock = some k ∨ w.heap.size ≤ k := fun k e => by
    simp only [Value.ownBlock, Option.some.injEq] at e
    subst e; exact hat
  have hU : Up w0 w1 := Below.trans H.up (grownBy_below G H.sz (own_ge H.ra))
  refine ⟨(cellE hg1).trans (H.cg.cell 3 (by decide)), (frozenE hg1).trans (H.cg.fz 3), hU.setCell (p := ⟨g, 3, none⟩) H.ge.2 _, H.cb.keep (hk2 b H.bt H.bg (fun e => (H.aa b e).1 rfl)), (H.cg.keep hg1).set (by decide) _ (fun i hi => ?_), ?_, ?_, own_same H.rl fun k e => hk2 k (H.rl.lt k e).2 (H.al k e).2.1 (fun e2 => (H.aa k e2).2.2.2 e), H.ge, H.bg, H.nx, fun k e => ?_, fun k e => ?_, H.al, H.bk.keep (by simpa using G.size) fun k hx => hk2 k (H.bk.lt k hx).2 (fun e => H.nx.2 (e ▸ hx)) (fun e => (H.aa k e).2.2.1 hx)⟩
  · match i, hi with
    | 0, _ | 1, _ | 2, _ | 3, _ | 4, _ | 5, _ | 6, _ | 7, _ | 8, _ => rfl
  · obtain ⟨xs, hx, h1⟩ := H.rm
    exact ⟨xs, own_same hx fun k e => hk2 k (hx.lt k e).2 (H.am k e).2.1 (H.am k e).2.2.2.1, h1⟩
  · have e1 : (s.ans ++ [x]).length = s.ans.length + 1 := by simp
    have e2 : icells (s.ans ++ [x]) = icells s.ans ++ [.int .i64 x] := by unfold icells; simp
    show World.ownsRow _ _ _ _ _ (s.ans ++ [x]).length (icells (s.ans ++ [x]))
    rw [e1, e2]
    refine own_same O fun k e => Below.heap_setCell w1 ⟨g, 3, none⟩ _ k (fun e2 => ?_)
    have e2 : k = g := e2
    rcases hnew k e with h1 | h1
    · exact (H.aa k h1).2.1 e2
    · have := H.gt; omega
  · obtain ⟨p1, p2, p3, p4, p5⟩ := H.am k e
    refine ⟨p1, p2, p3, fun e3 => ?_, p5⟩
    rcases hnew k e3 with h1 | h1
    · exact p4 h1
    · have := (H.mlt k e).2; omega
  · rcases hnew k e with h1 | h1
    · exact H.aa k h1
    · exact ⟨by have := H.bt; omega, by have := H.gt; omega, fun hx => by have := (H.bk.lt k hx).2; omega, fun e3 => by have := (H.rl.lt k e3).2; omega⟩
/-- A mark more. -/
theorem Ben.growM {w1 : World} {g1 cap : Nat} {ys : List Value} (H : Ben w0 w b g h c1 f l s u N vm va vl X) (G : w.grownBy w1 vm.ownBlock) (O : w1.ownsRow w0.heap.size 65 4 (.slice (some ⟨g1, 0, none⟩) (s.ms + 1) cap) (s.ms + 1) ys) (hys : ∀ u ∈ ys, u.oneCell' = true) (hat : vm.ownBlock = some g1 ∨ w.heap.size ≤ g1) :
    w1.cell? ⟨b, 6, none⟩ = some vm ∧ w1.frozen? ⟨b, 6, none⟩ = false ∧ Ben w0 (w1.setCell ⟨b, 6, none⟩ (.slice (some ⟨g1, 0, none⟩) (s.ms + 1) cap)) b g h c1 f l { s with ms := s.ms + 1 } u N (.slice (some ⟨g1, 0, none⟩) (s.ms + 1) cap) va vl X := by
  have hk : ∀ k, k < w.heap.size → vm.ownBlock ≠ some k → w1.heap[k]? = w.heap[k]? := fun k hk hne => G.block k hk (fun e => hne e.symm)
  have hk2 : ∀ k, k < w.heap.size → k ≠ b → vm.ownBlock ≠ some k → (w1.setCell ⟨b, 6, none⟩ (.slice (some ⟨g1, 0, none⟩) (s.ms + 1) cap)).heap[k]? = w.heap[k]? := fun k hk1 hg hne => (Below.heap_setCell w1 ⟨b, 6, none⟩ _ k hg).trans (hk k hk1 hne)
  have hb1 := hk b H.bt (fun e => (H.am b e).1 rfl)
  have hnew : ∀ k, Value.ownBlock (.slice (some ⟨g1, 0, none⟩) (s.ms + 1) cap) = some k → vm.ownBlock = some k ∨ w.heap.size ≤ k := fun k e => by
    simp only [Value.ownBlock, Option.some.injEq] at e
    subst e; exact hat
  have hU : Up w0 w1 := Below.trans H.up (grownBy_below G H.sz (fun k e => (H.mlt k e).1))
  refine ⟨(cellE hb1).trans (H.cb.cell 6 (by decide)), (frozenE hb1).trans (H.cb.fz 6), hU.setCell (p := ⟨b, 6, none⟩) H.ge.1 _, (H.cb.keep hb1).set (by decide) _ (fun i hi => ?_), H.cg.keep (hk2 g H.gt H.bg.symm (fun e => (H.am g e).2.1 rfl)), ⟨ys, ?_, hys⟩, own_same H.ra fun k e => hk2 k (H.ra.lt k e).2 (H.aa k e).1 (fun e2 => (H.am k e2).2.2.2.1 e), own_same H.rl fun k e => hk2 k (H.rl.lt k e).2 (H.al k e).1 (fun e2 => (H.am k e2).2.2.2.2 e), H.ge, H.bg, H.nx, fun k e => ?_, H.aa, H.al, H.bk.keep (by simpa using G.size) fun k hx => hk2 k (H.bk.lt k hx).2 (fun e => H.nx.1 (e ▸ hx)) (fun e => (H.am k e).2.2.1 hx)⟩
  · match i, hi with
    | 0, _ | 1, _ | 2, _ | 3, _ | 4, _ | 5, _ | 6, _ => rfl
  · refine own_same O fun k e => Below.heap_setCell w1 ⟨b, 6, none⟩ _ k (fun e2 => ?_)
    have e2 : k = b := e2
    rcases hnew k e with h1 | h1
    · exact (H.am k h1).1 e2
    · have := H.bt; omega
  · rcases hnew k e with h1 | h1
    · exact H.am k h1
    · exact ⟨by have := H.bt; omega, by have := H.gt; omega, fun hx => by have := (H.bk.lt k hx).2; omega, fun e3 => by have := (H.ra.lt k e3).2; omega, fun e3 => by have := (H.rl.lt k e3).2; omega⟩
end

end Go.Proofs.Ytedkgamecdmjdaa

/-
  Package bench: what reads a bench: at, over, Over, Now, Marks, draw; and a nil bench.
-/
namespace Go.Proofs.Ytedkgamecdmjdaa
open Go.RowKit

theorem at_nil (t : Int) (w : World) : Calls Try.prog 15 #[.pointer none, .int .i64 t] w fun e w' => e = .returned (.pointer none) ∧ w' = w := by
  go_enter Try.func15, Try.ntmps15
  go_wp2_with fail
  go_ret
  exact ⟨rfl, rfl⟩
/-- The thread of a bench of one, or nil. -/
theorem at_any (b g c1 : Nat) (t : Int) (w : World) (h1 : w.cell? ⟨b, 1, none⟩ = some (.slice (some ⟨g, 0, none⟩) 1 c1)) : Calls Try.prog 15 #[.pointer (some ⟨b, 0, none⟩), .int .i64 t] w fun e w' => e = .returned (.pointer (if t = 0 then some ⟨g, 0, none⟩ else none)) ∧ w' = w := by
  by_cases h : t < 0
  · rw [if_neg (by omega)]
    go_enter Try.func15, Try.ntmps15
    go_wp2_with fail
    go_ret
    exact ⟨rfl, rfl⟩
  · by_cases h2 : 1 ≤ t
    · rw [if_neg (by omega)]
      go_enter Try.func15, Try.ntmps15
      go_wp2_with fail
      go_ret
      exact ⟨rfl, rfl⟩
    · obtain rfl : t = 0 := by omega
      rw [if_pos rfl]
      go_enter Try.func15, Try.ntmps15
      go_wp2_with fail
      go_ret
      exact ⟨rfl, rfl⟩
def overB (st next many : Int) : Bool := decide (st = 0) && decide (many ≤ next)
theorem tover_any (g : Nat) (st next many : Int) (w : World) (h0 : w.cell? ⟨g, 0, none⟩ = some (.int .i64 many)) (h1 : w.cell? ⟨g, 1, none⟩ = some (.int .i64 next)) (h7 : w.cell? ⟨g, 7, none⟩ = some (.int .i64 st)) :
    Calls Try.prog 16 #[.pointer (some ⟨g, 0, none⟩)] w fun e w' => e = .returned (.bool (overB st next many)) ∧ Up w w' := by
  by_cases hs : st = 0
  · subst hs
    by_cases hn : many ≤ next
    · have e : overB 0 next many = true := by simp [overB, hn]
      rw [e]
      go_enter Try.func16, Try.ntmps16
      go_wp2_with fail
      go_quiet (fail)
      go_wp2_with fail
      go_ret
      exact ⟨rfl, (Up.refl _).drewN _⟩
    · have e : overB 0 next many = false := by simp [overB, hn]
      rw [e]
      go_enter Try.func16, Try.ntmps16
      go_wp2_with fail
      go_quiet (fail)
      go_wp2_with fail
      go_ret
      exact ⟨by show Ending.returned (.bool (decide (many ≤ next))) = _; rw [decide_eq_false (by omega)], (Up.refl _).drewN _⟩
  · have e : overB st next many = false := by simp [overB, hs]
    rw [e]
    go_enter Try.func16, Try.ntmps16
    go_wp2_with fail
    go_quiet (fail)
    go_wp2_with fail
    go_ret
    exact ⟨rfl, (Up.refl _).drewN _⟩

theorem over_nil (t : Int) (w : World) : Calls Try.prog 6 #[.pointer none, .int .i64 t] w fun e w' => e = .returned (.bool false) ∧ Up w w' := by
  have HA := Lib.hid (at_nil t w)
  go_enter Try.func6, Try.ntmps6
  go_wp2_with fail
  refine HA.out.mono ?_
  rintro e w' ⟨rfl, rfl⟩
  go_wp2_with fail
  go_ret
  exact ⟨rfl, Up.refl _⟩
/-- Over of a number that is no thread's. -/
theorem over_no (b g c1 : Nat) (t : Int) (w : World) (ht : t ≠ 0) (h1 : w.cell? ⟨b, 1, none⟩ = some (.slice (some ⟨g, 0, none⟩) 1 c1)) : Calls Try.prog 6 #[.pointer (some ⟨b, 0, none⟩), .int .i64 t] w fun e w' => e = .returned (.bool false) ∧ Up w w' := by
  have h := at_any b g c1 t w h1
  rw [if_neg ht] at h
  have HA := Lib.hid h
  clear h h1 ht
  go_enter Try.func6, Try.ntmps6
  go_wp2_with fail
  refine HA.out.mono ?_
  rintro e w' ⟨rfl, rfl⟩
  go_wp2_with fail
  go_ret
  exact ⟨rfl, Up.refl _⟩
theorem over_any (b g c1 : Nat) (st next many : Int) (w : World) (hb : w.cell? ⟨b, 1, none⟩ = some (.slice (some ⟨g, 0, none⟩) 1 c1)) (h0 : w.cell? ⟨g, 0, none⟩ = some (.int .i64 many)) (h1 : w.cell? ⟨g, 1, none⟩ = some (.int .i64 next)) (h7 : w.cell? ⟨g, 7, none⟩ = some (.int .i64 st)) :
    Calls Try.prog 6 #[.pointer (some ⟨b, 0, none⟩), .int .i64 0] w fun e w' => e = .returned (.bool (overB st next many)) ∧ Up w w' := by
  have h := at_any b g c1 0 w hb
  rw [if_pos rfl] at h
  have HA := Lib.hid h
  have HO := Lib.hid (tover_any g st next many w h0 h1 h7)
  generalize overB st next many = r at *
  clear h hb h0 h1 h7
  go_enter Try.func6, Try.ntmps6
  go_wp2_with fail
  refine HA.out.mono ?_
  rintro e w' ⟨rfl, rfl⟩
  go_wp2_with fail
  refine HO.out.mono ?_
  rintro e w' ⟨rfl, hu⟩
  have HU := Lib.hid hu
  clear hu
  go_wp2_with fail
  go_ret
  exact ⟨rfl, HU.out⟩
theorem now_nil (w : World) : Calls Try.prog 7 #[.pointer none] w fun e w' => e = .returned (.int .i64 0) ∧ Up w w' := by
  go_enter Try.func7, Try.ntmps7
  go_wp2_with fail
  go_ret
  exact ⟨rfl, Up.refl _⟩
theorem now_any (b : Nat) (n : Int) (w : World) (h : w.cell? ⟨b, 5, none⟩ = some (.int .i64 n)) : Calls Try.prog 7 #[.pointer (some ⟨b, 0, none⟩)] w fun e w' => e = .returned (.int .i64 n) ∧ Up w w' := by
  go_enter Try.func7, Try.ntmps7
  go_wp2_with fail
  go_ret
  exact ⟨rfl, Up.refl _⟩
theorem valueB_nil (t : Int) (w : World) : Calls Try.prog 8 #[.pointer none, .int .i64 t] w fun e w' => e = .returned (.int .i64 0) ∧ Up w w' := by
  go_enter Try.func8, Try.ntmps8
  go_wp2_with fail
  go_ret
  exact ⟨rfl, Up.refl _⟩
theorem marks_nil (w : World) : Calls Try.prog 9 #[.pointer none] w fun e w' => e = .returned (.slice none 0 0) ∧ Up w w' := by
  go_enter Try.func9, Try.ntmps9
  go_wp2_with fail
  go_ret
  exact ⟨rfl, Up.refl _⟩
theorem pick_nil (t : Int) (w : World) : Calls Try.prog 5 #[.pointer none, .int .i64 t] w fun e w' => e = .returned (.slice none 0 0) ∧ Up w w' := by
  have HA := Lib.hid (at_nil t w)
  go_enter Try.func5, Try.ntmps5
  go_wp2_with fail
  refine HA.out.mono ?_
  rintro e w' ⟨rfl, rfl⟩
  go_wp2_with fail
  go_ret
  exact ⟨rfl, Up.refl _⟩
theorem draw_any (b : Nat) (k c v : Int) (w : World) (h : w.cell? ⟨b, 3, none⟩ = some (.slice none 0 0)) : Calls Try.prog 35 #[.pointer (some ⟨b, 0, none⟩), .agg #[.int .i64 k, .int .i64 c, .int .i64 v]] w fun e w' => e = .returned (.int .i64 0) ∧ Up w w' := by
  have hlt := cell_lt h
  by_cases hk : k = 1
  · subst hk
    go_enter Try.func35, Try.ntmps35
    go_wp2_with fail
    go_ret
    exact ⟨rfl, (Up.refl _).alloc _⟩
  · go_enter Try.func35, Try.ntmps35
    go_wp2_with fail
    go_ret
    exact ⟨rfl, (Up.refl _).alloc _⟩
theorem infoMark : (Try.prog.info? 65).map (fun i => (i.zero, i.size, i.bytes)) = some (some (.agg #[.int .i64 0, .int .i64 0, .int .i64 0, .int .i64 0]), 4, 32) := by kernel_rfl
set_option maxRecDepth 10000 in
/-- A copy of the marks: as many. -/
theorem cloneM_any (n : Nat) (v : Value) (B : Nat) (xs : List Value) (w : World) (h : w.ownsRow B 65 4 v n xs) (hn : n ≤ 1000000) (ho : ∀ u ∈ xs, u.oneCell' = true) :
    Calls Try.prog 21 #[v] w fun e w' => (∃ A c, e = .returned (.slice A n c)) ∧ Up w w' := by
  obtain ⟨i0, hi, hz0, hz1, hz2⟩ := info_parts infoMark
  have HI := Lib.hid hi
  have HZ0 := Lib.hid hz0
  have HZ1 := Lib.hid hz1
  have HZ2 := Lib.hid hz2
  rcases h.2 with ⟨rfl, rfl⟩ | ⟨g, cap, cur, rfl, hg, hh, hcap, hmax, hsz, hcells⟩
  · have hnil := fun W : World => Lib.run_eql_slice_nil (P := Try.prog) W 28 65 none 0 0 0 0 Try.underlying28
    clear hi hz0 hz1 hz2 h hn ho HI HZ0 HZ1 HZ2
    go_enter Try.func21, Try.ntmps21
    go_wp2_with fail
    go_ret
    exact ⟨⟨_, _, rfl⟩, Up.refl _⟩
  · have hnil := fun W : World => Lib.run_eql_slice_nil (P := Try.prog) W 28 65 (some ⟨g, 0, none⟩) n cap 0 0 Try.underlying28
    have HL := Lib.hid (show xs.length = n * 4 from h.1)
    have HO := Lib.hid ho
    have HN := Lib.hid hn
    have HC := Lib.hid (fun (j : Nat) (u : Value) (hu : xs[j]? = some u) => show w.cell? ⟨g, 0 + j, none⟩ = some u from by
      rw [Nat.zero_add, cell_of_row w g j _ _ _ hh]
      rw [← hcells, List.getElem?_take] at hu
      split at hu
      · simpa using hu
      · cases hu)
    have HX := Lib.hid hh
    clear hi hz0 hz1 hz2 h hn ho hh hcells hmax hcap hg hsz
    go_enter Try.func21, Try.ntmps21
    go_wp2_with (at_builtin; refine wpList_append_own_at _ rfl (.tmp 5) (.tmp 6) 28 rfl w.heap.size 65 i0 (.agg #[.int .i64 0, .int .i64 0, .int .i64 0, .int .i64 0]) 4 32 Try.underlying28 HI.out HZ0.out HZ1.out HZ2.out rfl (by decide) _ 0 [] rfl ?_ ⟨g, 0, none⟩ n cap xs rfl HL.out ?_ HO.out ?_ ?_ ?_ ?_)
    case _ => exact ⟨rfl, .inr ⟨w.heap.size, 0, #[], rfl, Nat.le_refl _, heap_alloc_new w _, by decide, by decide, by simp⟩⟩
    case _ =>
      intro j u hu
      have h2 := (cellE (o := 0 + j) (((Up.refl w).alloc (.cells #[] 65)).block g (Array.getElem?_eq_some_iff.1 HX.out).1)).trans (HC.out j u hu)
      rw [Go.WideShapes.add_plain]; exact h2
    case _ => have := HN.out; unfold maxLen; omega
    case _ => have := HN.out; omega
    case _ => simp
    · intro v1 w1 hown1 hg _ _
      obtain ⟨A1, c1, rfl, _, _⟩ := own_form hown1
      have HU := Lib.hid (show Up w w1 from Below.trans ((Up.refl w).alloc _) (grownBy_below hg (by simp) (fun k e => by simp [Value.ownBlock] at e; omega)))
      clear hown1 hg
      go_wp2_with fail
      go_ret
      exact ⟨⟨A1, c1, by simp⟩, HU.out⟩

end Go.Proofs.Ytedkgamecdmjdaa

/-
  Package bench: begin, end of a thread's access; Marks.
-/
namespace Go.Proofs.Ytedkgamecdmjdaa
open Go.RowKit

/-- wpList_push, and which block the row lies in. -/
theorem wpList_push3 {P : Program} {ops : Array Oper} {rest : List Oper} {o : Oper} {a : Act} {Q : Exit → Act → World → Prop} {w : World} {e : TypeId} {news : List Value} (hgd : o.guard = none) (s x : Operand) (t : TypeId)
    (ho : o.op = .call { callee := .builtin .append, args := #[s, x], argTypes := #[t, t] })
    (B : Nat) (i : TypeInfo) (z : Value) (size bytes : Nat) (ht : P.underlying t = some (.slice e)) (hi : P.info? e = some i) (hz : i.zero = some z)
    (hsize : i.size = size) (hby : i.bytes = bytes) (hzs : z.cells.size = size) (hsz : 0 < size)
    (v : Value) (n : Nat) (xs : List Value) (hs : a.eval s = v) (hown : w.ownsRow B e size v n xs)
    (hx : a.eval x = .slice (some ⟨w.heap.size, 0, none⟩) 1 1) (hl : news.length = size) (h1 : ∀ u ∈ news, u.oneCell' = true)
    (hb1 : 0 < bytes) (hbytes : (n + 1) * bytes ≤ 140737488355328) (hB : B ≤ w.heap.size)
    (h : ∀ g cap w', w'.ownsRow B e size (.slice (some ⟨g, 0, none⟩) (n + 1) cap) (n + 1) (xs ++ news) → w.grownBy w' v.ownBlock → (v.ownBlock = some g ∨ w.heap.size ≤ g) → g < w'.heap.size → Below B w w' → wpList P ops Q rest (a.put o.dst (.slice (some ⟨g, 0, none⟩) (n + 1) cap)) w') :
    wpList P ops Q (o :: rest) a (w.alloc (.cells news.toArray e)) := by
  have h63 : n + 1 ≤ maxLen := by
    have : n + 1 ≤ (n + 1) * bytes := Nat.le_mul_of_pos_right _ hb1
    unfold maxLen; omega
  refine wpList_append_lies (w.alloc (.cells news.toArray e)) hgd s x t ho B e i z size bytes ht hi hz hsize hby hzs hsz v n xs hs (hown.alloc _) ⟨w.heap.size, 0, none⟩ 1 1 news hx (by omega) (fun j u hu => cells_new w news e j u hu) h1 (by decide) h63 hbytes (by simp; omega) _ rfl ?_
  intro g cap w' hown' hg hor hlt
  have hg' : w.grownBy w' v.ownBlock := ⟨hg.os, hg.tape, hg.output, Nat.le_trans (by simp) hg.size, fun k hk hne => (hg.block k (by simp; omega) hne).trans (Below.heap_alloc w _ k hk)⟩
  exact h g cap w' hown' hg' (hor.imp id (fun e => by rw [e]; simp)) hlt (grownBy_below hg' hB (own_ge hown))


set_option maxRecDepth 10000 in
theorem marks_any {w0 w : World} {b g h c1 : Nat} {f : Value} {l : List SD} {s : TB} {u : BS} {N : Nat} {vm va vl : Value} {X : Nat → Prop} (H : Ben w0 w b g h c1 f l s u N vm va vl X) (hm : s.ms ≤ 1000000) :
    Calls Try.prog 9 #[.pointer (some ⟨b, 0, none⟩)] w fun e w' => (∃ A c, e = .returned (.slice A s.ms c)) ∧ Up w w' := by
  obtain ⟨xs, hx, ho⟩ := H.rm
  have HC := Lib.hid (cloneM_any s.ms vm _ xs w hx hm ho)
  have h6 : w.cell? ⟨b, 6, none⟩ = some vm := H.cb.cell 6 (by decide)
  clear hx ho H hm
  go_enter Try.func9, Try.ntmps9
  go_wp2_with fail
  refine HC.out.mono ?_
  rintro e w' ⟨⟨A, c, rfl⟩, hu⟩
  have HU := Lib.hid hu
  clear hu
  go_wp2_with fail
  go_ret
  exact ⟨⟨_, _, rfl⟩, HU.out⟩

set_option maxRecDepth 10000 in
set_option maxHeartbeats 2000000 in
theorem bbegin_any {w0 w : World} {b g h c1 : Nat} {f : Value} {l : List SD} {s : TB} {u : BS} {N : Nat} {vm va vl : Value} {X : Nat → Prop} (H : Ben w0 w b g h c1 f l s u N vm va vl X) (hfit : Fit l) (hN : N ≤ 900)
    (hok : (u.begin (cntK l l.length) 6 (mkP l) 0 s.acc.1 s.acc.2.1 s.acc.2.2).1 = 0) :
    Calls Try.prog 18 #[.pointer (some ⟨b, 0, none⟩), .int .i64 0] w fun e w' => e = .returned (.tuple #[]) ∧ ∃ X', Ben w0 w' b g h c1 f l { s with st := 2 } (u.begin (cntK l l.length) 6 (mkP l) 0 s.acc.1 s.acc.2.1 s.acc.2.2).2 (N + 9) vm va vl X' := by
  have HH := Lib.hid (H.grow (Up.refl w).drew)
  have HB := Lib.hid (beginM_any l w0.heap.size h N u X 0 s.acc.1 s.acc.2.1 s.acc.2.2 w.drew hfit (by decide) (by decide) HH.out.bk hN)
  rw [hok] at HB
  generalize (u.begin (cntK l l.length) 6 (mkP l) 0 s.acc.1 s.acc.2.1 s.acc.2.2).2 = u' at *
  have b1 : w.cell? ⟨b, 1, none⟩ = some (.slice (some ⟨g, 0, none⟩) 1 c1) := H.cb.cell 1 (by decide)
  have hS : w.drew.cell? ⟨b, 0, none⟩ = some (.pointer (some ⟨h, 0, none⟩)) ∧ w.drew.cell? ⟨g, 4, none⟩ = some (.int .i64 s.acc.1) ∧ w.drew.cell? ⟨g, 5, none⟩ = some (.int .i64 s.acc.2.1) ∧ w.drew.cell? ⟨g, 6, none⟩ = some (.int .i64 s.acc.2.2) :=
    ⟨HH.out.cb.cell 0 (by decide), HH.out.cg.cell 4 (by decide), HH.out.cg.cell 5 (by decide), HH.out.cg.cell 6 (by decide)⟩
  clear H hok hfit hN
  go_enter Try.func18, Try.ntmps18
  go_wp2_with fail
  clear b1
  refine wp_region_held_drew (S := fun w' => w'.cell? ⟨b, 0, none⟩ = some (.pointer (some ⟨h, 0, none⟩)) ∧ w'.cell? ⟨g, 4, none⟩ = some (.int .i64 s.acc.1) ∧ w'.cell? ⟨g, 5, none⟩ = some (.int .i64 s.acc.2.1) ∧ w'.cell? ⟨g, 6, none⟩ = some (.int .i64 s.acc.2.2)) (by kernel_rfl) hS (fun hS0 => ?_)
  clear hS
  refine wpAnyH_take (i := 0) (v := ?_) rfl (by kernel_rfl) (by kernel_rfl) (by kernel_rfl) (fun _ _ _ h => h) (Or.inl ⟨by kernel_rfl, ?_⟩) hS0 ?_
  rotate_left
  · intro w hSw
    try dsimp only at hSw
    go_simp
    try (with_reducible rfl)
  try simp only [Act.put, List.setIfInBounds_toArray, List.set_cons_zero, List.set_cons_succ]
  refine wpAnyH_take (i := 1) (v := ?_) rfl (by kernel_rfl) (by kernel_rfl) (by kernel_rfl) (fun _ _ _ h => h) (Or.inl ⟨by kernel_rfl, ?_⟩) hS0 ?_
  rotate_left
  · intro w hSw
    try dsimp only at hSw
    go_simp
    try (with_reducible rfl)
  try simp only [Act.put, List.setIfInBounds_toArray, List.set_cons_zero, List.set_cons_succ]
  refine wpAnyH_take (i := 2) (v := ?_) rfl (by kernel_rfl) (by kernel_rfl) (by kernel_rfl) (fun _ _ _ h => h) (Or.inl ⟨by kernel_rfl, ?_⟩) hS0 ?_
  rotate_left
  · intro w hSw
    try dsimp only at hSw
    go_simp
    try (with_reducible rfl)
  try simp only [Act.put, List.setIfInBounds_toArray, List.set_cons_zero, List.set_cons_succ]
  refine wpAnyH_take (i := 3) (v := ?_) rfl (by kernel_rfl) (by kernel_rfl) (by kernel_rfl) (fun _ _ _ h => h) (Or.inl ⟨by kernel_rfl, ?_⟩) hS0 ?_
  rotate_left
  · intro w hSw
    try dsimp only at hSw
    go_simp
    try (with_reducible rfl)
  try simp only [Act.put, List.setIfInBounds_toArray, List.set_cons_zero, List.set_cons_succ]
  refine wpAnyH_take (i := 4) (v := ?_) rfl (by kernel_rfl) (by kernel_rfl) (by kernel_rfl) (fun _ _ _ h => h) (Or.inl ⟨by kernel_rfl, ?_⟩) hS0 ?_
  rotate_left
  · intro w hSw
    try dsimp only at hSw
    go_simp
    try (with_reducible rfl)
  try simp only [Act.put, List.setIfInBounds_toArray, List.set_cons_zero, List.set_cons_succ]
  refine wpAnyH_take (i := 5) (v := ?_) rfl (by kernel_rfl) (by kernel_rfl) (by kernel_rfl) (fun _ _ _ h => h) (Or.inl ⟨by kernel_rfl, ?_⟩) hS0 ?_
  rotate_left
  · intro w hSw
    try dsimp only at hSw
    go_simp
    try (with_reducible rfl)
  try simp only [Act.put, List.setIfInBounds_toArray, List.set_cons_zero, List.set_cons_succ]
  refine wpAnyH_take (i := 6) (v := ?_) rfl (by kernel_rfl) (by kernel_rfl) (by kernel_rfl) (fun _ _ _ h => h) (Or.inl ⟨by kernel_rfl, ?_⟩) hS0 ?_
  rotate_left
  · intro w hSw
    try dsimp only at hSw
    go_simp
    try (with_reducible rfl)
  try simp only [Act.put, List.setIfInBounds_toArray, List.set_cons_zero, List.set_cons_succ]
  refine wpAnyH_take (i := 7) (v := ?_) rfl (by kernel_rfl) (by kernel_rfl) (by kernel_rfl) (fun _ _ _ h => h) (Or.inl ⟨by kernel_rfl, ?_⟩) hS0 ?_
  rotate_left
  · intro w hSw
    try dsimp only at hSw
    go_simp
    try (with_reducible rfl)
  try simp only [Act.put, List.setIfInBounds_toArray, List.set_cons_zero, List.set_cons_succ]
  refine wpAnyH_take (i := 8) (v := ?_) rfl (by kernel_rfl) (by kernel_rfl) (by kernel_rfl) (fun _ _ _ h => h) (Or.inl ⟨by kernel_rfl, ?_⟩) hS0 ?_
  rotate_left
  · intro w hSw
    try dsimp only at hSw
    go_simp
    try (with_reducible rfl)
  try simp only [Act.put, List.setIfInBounds_toArray, List.set_cons_zero, List.set_cons_succ]
  refine wpAnyH_ready (rs := [9]) (by kernel_rfl) (by simp) ?_
  refine AllReadyH.cons rfl (fun K hK => ?_) AllReadyH.nil
  go_simp
  refine HB.out.mono ?_
  rintro e w2 ⟨rfl, hB2, hF2⟩
  have H2 := Lib.hid (HH.out.bank hF2 hB2)
  have hS2 : w2.cell? ⟨b, 0, none⟩ = some (.pointer (some ⟨h, 0, none⟩)) ∧ w2.cell? ⟨g, 4, none⟩ = some (.int .i64 s.acc.1) ∧ w2.cell? ⟨g, 5, none⟩ = some (.int .i64 s.acc.2.1) ∧ w2.cell? ⟨g, 6, none⟩ = some (.int .i64 s.acc.2.2) :=
    ⟨H2.out.cb.cell 0 (by decide), H2.out.cg.cell 4 (by decide), H2.out.cg.cell 5 (by decide), H2.out.cg.cell 6 (by decide)⟩
  clear hB2 hF2 HB HH
  refine hK.out _ _ hS2 (fun hS3 => ?_)
  clear hK K
  try simp only [Act.put, List.setIfInBounds_toArray, List.set_cons_zero, List.set_cons_succ]
  refine wpAnyH_take (i := 10) (v := ?_) rfl (by kernel_rfl) (by kernel_rfl) (by kernel_rfl) (fun _ _ _ h => h) (Or.inl ⟨by kernel_rfl, ?_⟩) hS3 ?_
  rotate_left
  · intro w hSw
    try dsimp only at hSw
    go_simp
    try (with_reducible rfl)
  try simp only [Act.put, List.setIfInBounds_toArray, List.set_cons_zero, List.set_cons_succ]
  refine wpAnyH_done (by kernel_rfl) ?_ _
  try simp only [Act.put, List.setIfInBounds_toArray, List.set_cons_zero, List.set_cons_succ, List.getElem_toArray, List.getElem_cons_succ, List.getElem_cons_zero]
  have g7 : w2.cell? ⟨g, 7, none⟩ = some (.int .i64 s.st) := H2.out.cg.cell 7 (by decide)
  have f7 := H2.out.cg.fz 7
  clear hS0 hS2 hS3
  have HF := Lib.hid (H2.out.setN (s' := { s with st := 2 }) (j := 7) (by decide) (.int .i64 2) (fun i hi => by match i, hi with | 0, _ | 1, _ | 2, _ | 3, _ | 4, _ | 5, _ | 6, _ | 7, _ | 8, _ => rfl) rfl rfl rfl rfl)
  clear H2
  go_wp2_with fail
  go_end0
  exact ⟨rfl, _, HF.out⟩

end Go.Proofs.Ytedkgamecdmjdaa

/-
  Package bench: the end of a thread's access.
-/
namespace Go.Proofs.Ytedkgamecdmjdaa
open Go.RowKit

set_option maxRecDepth 10000 in
set_option maxHeartbeats 4000000 in
theorem bend_any {w0 w : World} {b g h c1 : Nat} {f : Value} {l : List SD} {s : TB} {u : BS} {N : Nat} {vm va vl : Value} {X : Nat → Prop} (H : Ben w0 w b g h c1 f l s u N vm va vl X) (hN : N ≤ 1000) (mk : Int → CS) (ha : s.ans.length ≤ 1000000) (hm : s.ms ≤ 1000000) :
    Calls Try.prog 19 #[.pointer (some ⟨b, 0, none⟩), .int .i64 0] w fun e w' => e = .returned (.tuple #[]) ∧ ∃ vm' va' X', Ben w0 w' b g h c1 f l { s with ans := s.ans ++ [(u.endA mk 0 0).1], ms := s.ms + 1 } (u.endA mk 0 0).2.2 N vm' va' vl X' := by
  have HH := Lib.hid (H.grow (Up.refl w).drew)
  have HD := Lib.hid (draw_any b s.acc.1 s.acc.2.1 s.acc.2.2 w.drew (HH.out.cb.cell 3 (by decide)))
  have HB := Lib.hid (fun (W : World) (hU : Up w.drew W) => endM_any l w0.heap.size h N u X 0 0 W (by decide) (by decide) (HH.out.grow hU).bk hN mk)
  generalize u.endA mk 0 0 = r at *
  obtain ⟨r1, r2, r3⟩ := r
  dsimp only at HB ⊢
  have b1 : w.cell? ⟨b, 1, none⟩ = some (.slice (some ⟨g, 0, none⟩) 1 c1) := H.cb.cell 1 (by decide)
  have hS : w.drew.cell? ⟨b, 0, none⟩ = some (.pointer (some ⟨h, 0, none⟩)) ∧ w.drew.cell? ⟨g, 4, none⟩ = some (.int .i64 s.acc.1) ∧ w.drew.cell? ⟨g, 5, none⟩ = some (.int .i64 s.acc.2.1) ∧ w.drew.cell? ⟨g, 6, none⟩ = some (.int .i64 s.acc.2.2) :=
    ⟨HH.out.cb.cell 0 (by decide), HH.out.cg.cell 4 (by decide), HH.out.cg.cell 5 (by decide), HH.out.cg.cell 6 (by decide)⟩
  have HA := Lib.hid ha
  have HM := Lib.hid hm
  clear H hN ha hm
  go_enter Try.func19, Try.ntmps19
  go_wp2_with fail
  clear b1
  refine wp_region_held_drew (S := fun w' => w'.cell? ⟨b, 0, none⟩ = some (.pointer (some ⟨h, 0, none⟩)) ∧ w'.cell? ⟨g, 4, none⟩ = some (.int .i64 s.acc.1) ∧ w'.cell? ⟨g, 5, none⟩ = some (.int .i64 s.acc.2.1) ∧ w'.cell? ⟨g, 6, none⟩ = some (.int .i64 s.acc.2.2)) (by kernel_rfl) hS (fun hS0 => ?_)
  clear hS
  refine wpAnyH_take (i := 0) (v := ?_) rfl (by kernel_rfl) (by kernel_rfl) (by kernel_rfl) (fun _ _ _ h => h) (Or.inl ⟨by kernel_rfl, ?_⟩) hS0 ?_
  rotate_left
  · intro w hSw
    try dsimp only at hSw
    go_simp
    try (with_reducible rfl)
  try simp only [Act.put, List.setIfInBounds_toArray, List.set_cons_zero, List.set_cons_succ]
  refine wpAnyH_take (i := 1) (v := ?_) rfl (by kernel_rfl) (by kernel_rfl) (by kernel_rfl) (fun _ _ _ h => h) (Or.inl ⟨by kernel_rfl, ?_⟩) hS0 ?_
  rotate_left
  · intro w hSw
    try dsimp only at hSw
    go_simp
    try (with_reducible rfl)
  try simp only [Act.put, List.setIfInBounds_toArray, List.set_cons_zero, List.set_cons_succ]
  refine wpAnyH_take (i := 2) (v := ?_) rfl (by kernel_rfl) (by kernel_rfl) (by kernel_rfl) (fun _ _ _ h => h) (Or.inl ⟨by kernel_rfl, ?_⟩) hS0 ?_
  rotate_left
  · intro w hSw
    try dsimp only at hSw
    go_simp
    try (with_reducible rfl)
  try simp only [Act.put, List.setIfInBounds_toArray, List.set_cons_zero, List.set_cons_succ]
  refine wpAnyH_take (i := 3) (v := ?_) rfl (by kernel_rfl) (by kernel_rfl) (by kernel_rfl) (fun _ _ _ h => h) (Or.inl ⟨by kernel_rfl, ?_⟩) hS0 ?_
  rotate_left
  · intro w hSw
    try dsimp only at hSw
    go_simp
    try (with_reducible rfl)
  try simp only [Act.put, List.setIfInBounds_toArray, List.set_cons_zero, List.set_cons_succ]
  refine wpAnyH_take (i := 4) (v := ?_) rfl (by kernel_rfl) (by kernel_rfl) (by kernel_rfl) (fun _ _ _ h => h) (Or.inl ⟨by kernel_rfl, ?_⟩) hS0 ?_
  rotate_left
  · intro w hSw
    try dsimp only at hSw
    go_simp
    try (with_reducible rfl)
  try simp only [Act.put, List.setIfInBounds_toArray, List.set_cons_zero, List.set_cons_succ]
  refine wpAnyH_take (i := 5) (v := ?_) rfl (by kernel_rfl) (by kernel_rfl) (by kernel_rfl) (fun _ _ _ h => h) (Or.inl ⟨by kernel_rfl, ?_⟩) hS0 ?_
  rotate_left
  · intro w hSw
    try dsimp only at hSw
    go_simp
    try (with_reducible rfl)
  try simp only [Act.put, List.setIfInBounds_toArray, List.set_cons_zero, List.set_cons_succ]
  refine wpAnyH_take (i := 6) (v := ?_) rfl (by kernel_rfl) (by kernel_rfl) (by kernel_rfl) (fun _ _ _ h => h) (Or.inl ⟨by kernel_rfl, ?_⟩) hS0 ?_
  rotate_left
  · intro w hSw
    try dsimp only at hSw
    go_simp
    try (with_reducible rfl)
  try simp only [Act.put, List.setIfInBounds_toArray, List.set_cons_zero, List.set_cons_succ]
  refine wpAnyH_take (i := 7) (v := ?_) rfl (by kernel_rfl) (by kernel_rfl) (by kernel_rfl) (fun _ _ _ h => h) (Or.inl ⟨by kernel_rfl, ?_⟩) hS0 ?_
  rotate_left
  · intro w hSw
    try dsimp only at hSw
    go_simp
    try (with_reducible rfl)
  try simp only [Act.put, List.setIfInBounds_toArray, List.set_cons_zero, List.set_cons_succ]
  refine wpAnyH_take (i := 8) (v := ?_) rfl (by kernel_rfl) (by kernel_rfl) (by kernel_rfl) (fun _ _ _ h => h) (Or.inl ⟨by kernel_rfl, ?_⟩) hS0 ?_
  rotate_left
  · intro w hSw
    try dsimp only at hSw
    go_simp
    try (with_reducible rfl)
  try simp only [Act.put, List.setIfInBounds_toArray, List.set_cons_zero, List.set_cons_succ]
  refine wpAnyH_take (i := 9) (v := ?_) rfl (by kernel_rfl) (by kernel_rfl) (by kernel_rfl) (fun _ _ _ h => h) (Or.inl ⟨by kernel_rfl, ?_⟩) hS0 ?_
  rotate_left
  · intro w hSw
    try dsimp only at hSw
    go_simp
    try (with_reducible rfl)
  try simp only [Act.put, List.setIfInBounds_toArray, List.set_cons_zero, List.set_cons_succ]
  refine wpAnyH_ready (rs := [10]) (by kernel_rfl) (by simp) ?_
  refine AllReadyH.cons rfl (fun K hK => ?_) AllReadyH.nil
  go_simp
  refine HD.out.mono ?_
  rintro e w1 ⟨rfl, hU1⟩
  have H1 := Lib.hid (HH.out.grow hU1)
  have HB1 := Lib.hid (HB.out w1 hU1)
  have hS1 : w1.cell? ⟨b, 0, none⟩ = some (.pointer (some ⟨h, 0, none⟩)) ∧ w1.cell? ⟨g, 4, none⟩ = some (.int .i64 s.acc.1) ∧ w1.cell? ⟨g, 5, none⟩ = some (.int .i64 s.acc.2.1) ∧ w1.cell? ⟨g, 6, none⟩ = some (.int .i64 s.acc.2.2) :=
    ⟨H1.out.cb.cell 0 (by decide), H1.out.cg.cell 4 (by decide), H1.out.cg.cell 5 (by decide), H1.out.cg.cell 6 (by decide)⟩
  clear hU1 HB HH HD
  refine hK.out _ _ hS1 (fun hS2 => ?_)
  clear hK K
  try simp only [Act.put, List.setIfInBounds_toArray, List.set_cons_zero, List.set_cons_succ]
  clear hS1
  refine wpAnyH_ready (rs := [11]) (by kernel_rfl) (by simp) ?_
  refine AllReadyH.cons rfl (fun K hK => ?_) AllReadyH.nil
  go_simp
  refine HB1.out.mono ?_
  rintro e w2 ⟨rfl, hB2, hF2⟩
  have H2 := Lib.hid (H1.out.bank hF2 hB2)
  generalize XG X w1 w2 = X2 at *
  have hS3 : w2.cell? ⟨b, 0, none⟩ = some (.pointer (some ⟨h, 0, none⟩)) ∧ w2.cell? ⟨g, 4, none⟩ = some (.int .i64 s.acc.1) ∧ w2.cell? ⟨g, 5, none⟩ = some (.int .i64 s.acc.2.1) ∧ w2.cell? ⟨g, 6, none⟩ = some (.int .i64 s.acc.2.2) :=
    ⟨H2.out.cb.cell 0 (by decide), H2.out.cg.cell 4 (by decide), H2.out.cg.cell 5 (by decide), H2.out.cg.cell 6 (by decide)⟩
  clear hB2 hF2 HB1 H1
  refine hK.out _ _ hS3 (fun hS4 => ?_)
  clear hK K
  try simp only [Act.put, List.setIfInBounds_toArray, List.set_cons_zero, List.set_cons_succ]
  refine wpAnyH_take (i := 12) (v := ?_) rfl (by kernel_rfl) (by kernel_rfl) (by kernel_rfl) (fun _ _ _ h => h) (Or.inl ⟨by kernel_rfl, ?_⟩) hS4 ?_
  rotate_left
  · intro w hSw
    try dsimp only at hSw
    go_simp
    try (with_reducible rfl)
  try simp only [Act.put, List.setIfInBounds_toArray, List.set_cons_zero, List.set_cons_succ]
  refine wpAnyH_take (i := 13) (v := ?_) rfl (by kernel_rfl) (by kernel_rfl) (by kernel_rfl) (fun _ _ _ h => h) (Or.inl ⟨by kernel_rfl, ?_⟩) hS4 ?_
  rotate_left
  · intro w hSw
    try dsimp only at hSw
    go_simp
    try (with_reducible rfl)
  try simp only [Act.put, List.setIfInBounds_toArray, List.set_cons_zero, List.set_cons_succ]
  refine wpAnyH_take (i := 14) (v := ?_) rfl (by kernel_rfl) (by kernel_rfl) (by kernel_rfl) (fun _ _ _ h => h) (Or.inl ⟨by kernel_rfl, ?_⟩) hS4 ?_
  rotate_left
  · intro w hSw
    try dsimp only at hSw
    go_simp
    try (with_reducible rfl)
  try simp only [Act.put, List.setIfInBounds_toArray, List.set_cons_zero, List.set_cons_succ]
  refine wpAnyH_take (i := 15) (v := ?_) rfl (by kernel_rfl) (by kernel_rfl) (by kernel_rfl) (fun _ _ _ h => h) (Or.inl ⟨by kernel_rfl, ?_⟩) hS4 ?_
  rotate_left
  · intro w hSw
    try dsimp only at hSw
    go_simp
    try (with_reducible rfl)
  try simp only [Act.put, List.setIfInBounds_toArray, List.set_cons_zero, List.set_cons_succ]
  refine wpAnyH_take (i := 16) (v := ?_) rfl (by kernel_rfl) (by kernel_rfl) (by kernel_rfl) (fun _ _ _ h => h) (Or.inl ⟨by kernel_rfl, ?_⟩) hS4 ?_
  rotate_left
  · intro w hSw
    try dsimp only at hSw
    go_simp
    try (with_reducible rfl)
  try simp only [Act.put, List.setIfInBounds_toArray, List.set_cons_zero, List.set_cons_succ]
  refine wpAnyH_done (by kernel_rfl) ?_ _
  try simp only [Act.put, List.setIfInBounds_toArray, List.set_cons_zero, List.set_cons_succ, List.getElem_toArray, List.getElem_cons_succ, List.getElem_cons_zero]
  clear hS0 hS2 hS3 hS4
  obtain ⟨i0, hi, hz0, hz1, hz2⟩ := info_parts infoInt
  have HI := Lib.hid hi
  have HZ0 := Lib.hid hz0
  have HZ1 := Lib.hid hz1
  have HZ2 := Lib.hid hz2
  have g3 : w2.cell? ⟨g, 3, none⟩ = some va := H2.out.cg.cell 3 (by decide)
  obtain ⟨n, hn⟩ : ∃ n, s.ans.length = n := ⟨_, rfl⟩
  have HN := Lib.hid hn
  have HX := Lib.hid (fun (w3 : World) (g1 cap : Nat) => H2.out.growA (w1 := w3) (g1 := g1) (cap := cap) (x := r1))
  have HRA := Lib.hid H2.out.ra
  rw [hn] at HA HX HRA
  have HSZ := Lib.hid H2.out.sz
  clear hi hz0 hz1 hz2 hn H2
  obtain ⟨Aa, ca, rfl, hac, _⟩ := own_form HRA.out
  go_wp2_with (at_builtin; refine wpList_push3 (news := [.int .i64 r1]) rfl (.tmp 32) (.tmp 34) 43 rfl w0.heap.size i0 (.int .i64 0) 1 8 Try.underlying43 HI.out HZ0.out HZ1.out HZ2.out rfl (by decide) _ n (icells s.ans) rfl HRA.out rfl rfl (by simp [Value.oneCell']) (by decide) (by have := HA.out; omega) HSZ.out ?_; intro g1 cap w3 hown3 hg3 hor3 hlt3 hbel3; obtain ⟨c3, f3, HB3⟩ := HX.out w3 g1 cap hg3 hown3 hor3; have HB4 := Lib.hid HB3; clear HB3 hown3 hg3 hor3 hlt3 hbel3)
  obtain ⟨W4, hW4⟩ : ∃ x, w3.setCell ⟨g, 3, none⟩ (.slice (some ⟨g1, 0, none⟩) (n + 1) cap) = x := ⟨_, rfl⟩
  rw [hW4] at HB4 ⊢
  clear hW4 c3 f3 HX HRA g3 HI HZ0 HZ1 HZ2
  obtain ⟨xs, hx, ho⟩ := HB4.out.rm
  dsimp only at hx
  obtain ⟨Am, cm, rfl, hmc, _⟩ := own_form hx
  obtain ⟨i0, hi, hz0, hz1, hz2⟩ := info_parts infoMark
  have HI := Lib.hid hi
  have HZ0 := Lib.hid hz0
  have HZ1 := Lib.hid hz1
  have HZ2 := Lib.hid hz2
  obtain ⟨m, hm⟩ : ∃ m, s.ms = m := ⟨_, rfl⟩
  have HX5 := Lib.hid (fun (w5 : World) (g5 cap5 : Nat) => (HB4.out.grow (((Up.refl W4).alloc (.cells #[.int .i64 0, .int .i64 s.acc.1, .int .i64 s.acc.2.1, .int .i64 s.acc.2.2] 65)).drew)).growM (w1 := w5) (g1 := g5) (cap := cap5) (ys := xs ++ [.int .i64 0, .int .i64 s.acc.1, .int .i64 s.acc.2.1, .int .i64 s.acc.2.2]))
  dsimp only at HX5
  rw [hm] at hx HM HX5 hmc HB4
  have HMM := Lib.hid hm
  clear hm
  have HXS := Lib.hid hx
  have HOS := Lib.hid (show ∀ u ∈ xs ++ [.int .i64 0, .int .i64 s.acc.1, .int .i64 s.acc.2.1, .int .i64 s.acc.2.2], u.oneCell' = true from fun u hu => by
    rcases List.mem_append.1 hu with hu | hu
    · exact ho u hu
    · simp at hu; rcases hu with rfl | rfl | rfl | rfl <;> rfl)
  have HSZ4 := Lib.hid HB4.out.sz
  have hS : W4.drew.cell? ⟨g, 4, none⟩ = some (.int .i64 s.acc.1) ∧ W4.drew.cell? ⟨g, 5, none⟩ = some (.int .i64 s.acc.2.1) ∧ W4.drew.cell? ⟨g, 6, none⟩ = some (.int .i64 s.acc.2.2)   := ⟨HB4.out.cg.cell 4 (by decide), HB4.out.cg.cell 5 (by decide), HB4.out.cg.cell 6 (by decide)⟩
  have hua : Up W4 (W4.alloc (.cells #[.int .i64 0, .int .i64 s.acc.1, .int .i64 s.acc.2.1, .int .i64 s.acc.2.2] 65)).drew := ((Up.refl W4).alloc _).drew
  have HS2 := Lib.hid (show (W4.alloc (.cells #[.int .i64 0, .int .i64 s.acc.1, .int .i64 s.acc.2.1, .int .i64 s.acc.2.2] 65)).drew.cell? ⟨g, 4, none⟩ = some (.int .i64 s.acc.1) ∧ (W4.alloc (.cells #[.int .i64 0, .int .i64 s.acc.1, .int .i64 s.acc.2.1, .int .i64 s.acc.2.2] 65)).drew.cell? ⟨g, 5, none⟩ = some (.int .i64 s.acc.2.1) ∧ (W4.alloc (.cells #[.int .i64 0, .int .i64 s.acc.1, .int .i64 s.acc.2.1, .int .i64 s.acc.2.2] 65)).drew.cell? ⟨g, 6, none⟩ = some (.int .i64 s.acc.2.2) from
    ⟨(HB4.out.grow hua).cg.cell 4 (by decide), (HB4.out.grow hua).cg.cell 5 (by decide), (HB4.out.grow hua).cg.cell 6 (by decide)⟩)
  have hb6 : W4.cell? ⟨b, 6, none⟩ = some (.slice Am m cm) := HB4.out.cb.cell 6 (by decide)
  have hb6a : (W4.alloc (.cells #[.int .i64 0, .int .i64 s.acc.1, .int .i64 s.acc.2.1, .int .i64 s.acc.2.2] 65)).cell? ⟨b, 6, none⟩ = some (.slice Am m cm) := (HB4.out.grow hua).cb.cell 6 (by decide)
  clear hi hz0 hz1 hz2 hx ho hua HN HA HSZ hac
  refine wp_region_held_drew (S := fun w' => w'.cell? ⟨g, 4, none⟩ = some (.int .i64 s.acc.1) ∧ w'.cell? ⟨g, 5, none⟩ = some (.int .i64 s.acc.2.1) ∧ w'.cell? ⟨g, 6, none⟩ = some (.int .i64 s.acc.2.2)) (by kernel_rfl) hS (fun hS0 => ?_)
  clear hS
  refine wpAnyH_take (i := 0) (v := ?_) rfl (by kernel_rfl) (by kernel_rfl) (by kernel_rfl) (fun _ _ _ h => h) (Or.inl ⟨by kernel_rfl, ?_⟩) hS0 ?_
  rotate_left
  · intro w hSw
    try dsimp only at hSw
    go_simp
    try (with_reducible rfl)
  try simp only [Act.put, List.setIfInBounds_toArray, List.set_cons_zero, List.set_cons_succ]
  refine wpAnyH_take (i := 1) (v := ?_) rfl (by kernel_rfl) (by kernel_rfl) (by kernel_rfl) (fun _ _ _ h => h) (Or.inl ⟨by kernel_rfl, ?_⟩) hS0 ?_
  rotate_left
  · intro w hSw
    try dsimp only at hSw
    go_simp
    try (with_reducible rfl)
  try simp only [Act.put, List.setIfInBounds_toArray, List.set_cons_zero, List.set_cons_succ]
  refine wpAnyH_take (i := 2) (v := ?_) rfl (by kernel_rfl) (by kernel_rfl) (by kernel_rfl) (fun _ _ _ h => h) (Or.inl ⟨by kernel_rfl, ?_⟩) hS0 ?_
  rotate_left
  · intro w hSw
    try dsimp only at hSw
    go_simp
    try (with_reducible rfl)
  try simp only [Act.put, List.setIfInBounds_toArray, List.set_cons_zero, List.set_cons_succ]
  refine wpAnyH_take (i := 3) (v := ?_) rfl (by kernel_rfl) (by kernel_rfl) (by kernel_rfl) (fun _ _ _ h => h) (Or.inl ⟨by kernel_rfl, ?_⟩) hS0 ?_
  rotate_left
  · intro w hSw
    try dsimp only at hSw
    go_simp
    try (with_reducible rfl)
  try simp only [Act.put, List.setIfInBounds_toArray, List.set_cons_zero, List.set_cons_succ]
  refine wpAnyH_take (i := 5) (v := ?_) rfl (by kernel_rfl) (by kernel_rfl) (by kernel_rfl) (fun _ _ _ h => h) (Or.inl ⟨by kernel_rfl, ?_⟩) hS0 ?_
  rotate_left
  · intro w hSw
    try dsimp only at hSw
    go_simp
    try (with_reducible rfl)
  try simp only [Act.put, List.setIfInBounds_toArray, List.set_cons_zero, List.set_cons_succ]
  refine wpAnyH_take (i := 6) (v := ?_) rfl (by kernel_rfl) (by kernel_rfl) (by kernel_rfl) (fun _ _ _ h => h) (Or.inl ⟨by kernel_rfl, ?_⟩) hS0 ?_
  rotate_left
  · intro w hSw
    try dsimp only at hSw
    go_simp
    try (with_reducible rfl)
  try simp only [Act.put, List.setIfInBounds_toArray, List.set_cons_zero, List.set_cons_succ]
  refine wpAnyH_take (i := 7) (v := ?_) rfl (by kernel_rfl) (by kernel_rfl) (by kernel_rfl) (fun _ _ _ h => h) (Or.inl ⟨by kernel_rfl, ?_⟩) hS0 ?_
  rotate_left
  · intro w hSw
    try dsimp only at hSw
    go_simp
    try (with_reducible rfl)
  try simp only [Act.put, List.setIfInBounds_toArray, List.set_cons_zero, List.set_cons_succ]
  refine wpAnyH_take (i := 8) (v := ?_) rfl (by kernel_rfl) (by kernel_rfl) (by kernel_rfl) (fun _ _ _ h => h) (Or.inl ⟨by kernel_rfl, ?_⟩) hS0 ?_
  rotate_left
  · intro w hSw
    try dsimp only at hSw
    go_simp
    try (with_reducible rfl)
  try simp only [Act.put, List.setIfInBounds_toArray, List.set_cons_zero, List.set_cons_succ]
  refine wpAnyH_take (i := 9) (v := ?_) rfl (by kernel_rfl) (by kernel_rfl) (by kernel_rfl) (fun _ _ _ h => h) (Or.inl ⟨by kernel_rfl, ?_⟩) hS0 ?_
  rotate_left
  · intro w hSw
    try dsimp only at hSw
    go_simp
    try (with_reducible rfl)
  try simp only [Act.put, List.setIfInBounds_toArray, List.set_cons_zero, List.set_cons_succ]
  refine wpAnyH_take (i := 10) (v := ?_) rfl (by kernel_rfl) (by kernel_rfl) (by kernel_rfl) (fun _ _ _ h => h) (Or.inl ⟨by kernel_rfl, ?_⟩) hS0 ?_
  rotate_left
  · intro w hSw
    try dsimp only at hSw
    go_simp
    try (with_reducible rfl)
  try simp only [Act.put, List.setIfInBounds_toArray, List.set_cons_zero, List.set_cons_succ]
  refine wpAnyH_ready (rs := [4, 11]) (by kernel_rfl) (by simp) ?_
  refine AllReadyH.cons rfl (fun K hK => ?_) (AllReadyH.cons rfl (fun K hK => ?_) AllReadyH.nil)
  · go_simp
    refine hK.out _ _ hS0 (fun hS1 => ?_)
    clear hK K
    try simp only [Act.put, List.setIfInBounds_toArray, List.set_cons_zero, List.set_cons_succ]
    refine wpAnyH_ready (rs := [11]) (by kernel_rfl) (by simp) ?_
    refine AllReadyH.cons rfl (fun K hK => ?_) AllReadyH.nil
    go_simp
    refine hK.out _ _ HS2.out (fun hS2 => ?_)
    clear hK K
    try simp only [Act.put, List.setIfInBounds_toArray, List.set_cons_zero, List.set_cons_succ]
    refine wpAnyH_ready (rs := [12]) (by kernel_rfl) (by simp) ?_
    refine AllReadyH.cons rfl (fun K hK => ?_) AllReadyH.nil
    refine step_append_lies _ rfl (.tmp 42) (.tmp 49) 28 rfl w0.heap.size 65 i0 (.agg #[.int .i64 0, .int .i64 0, .int .i64 0, .int .i64 0]) 4 32 Try.underlying28 HI.out HZ0.out HZ1.out HZ2.out rfl (by decide) _ m xs rfl (own_same HXS.out fun k e => ((Up.refl W4).alloc _).drew.block k (HXS.out.lt k e).2) ⟨W4.heap.size, 0, none⟩ 1 1 [.int .i64 0, .int .i64 s.acc.1, .int .i64 s.acc.2.1, .int .i64 s.acc.2.2] rfl rfl (news1 W4 _ _) (by simp [Value.oneCell']) (by decide) (by have := HM.out; unfold maxLen; omega) (by have := HM.out; omega) (by have := HSZ4.out; simp; omega) _ rfl ?_
    intro g5 cap5 w5 hown5 hg5 hat5 hlt5
    obtain ⟨c6, f6, hB5⟩ := HX5.out w5 g5 cap5 hg5 hown5 HOS.out (hat5.imp id (fun e => by rw [e]; simp))
    have HB5 := Lib.hid hB5
    have q4 := hB5.cg.cell 4 (by decide)
    have q5 := hB5.cg.cell 5 (by decide)
    have q6 := hB5.cg.cell 6 (by decide)
    have HBG := Lib.hid hB5.bg
    have ho4 : ∀ j, (w5.setCell ⟨b, 6, none⟩ (.slice (some ⟨g5, 0, none⟩) (m + 1) cap5)).cell? ⟨g, j, none⟩ = w5.cell? ⟨g, j, none⟩ := fun j => cellE (Below.heap_setCell w5 ⟨b, 6, none⟩ _ g HBG.out.symm)
    rw [ho4] at q4 q5 q6
    have HQ := Lib.hid ho4
    clear hB5 hown5 hg5 hat5 hlt5 ho4
    refine hK.out _ _ ⟨q4, q5, q6⟩ (fun hS3 => ?_)
    clear hK K
    try simp only [Act.put, List.setIfInBounds_toArray, List.set_cons_zero, List.set_cons_succ]
    refine wpAnyH_take (i := 13) (v := ?_) rfl (by kernel_rfl) (by kernel_rfl) (by kernel_rfl) (fun _ _ _ h => h) (Or.inl ⟨by kernel_rfl, ?_⟩) hS3 ?_
    rotate_left
    · intro w hSw
      try dsimp only at hSw
      go_simp
      try (with_reducible rfl)
    try simp only [Act.put, List.setIfInBounds_toArray, List.set_cons_zero, List.set_cons_succ]
    refine wpAnyH_take (i := 14) (v := ?_) rfl (by kernel_rfl) (by kernel_rfl) (by kernel_rfl) (fun _ _ _ h => h) (Or.inl ⟨by kernel_rfl, ?_⟩) hS3 ?_
    rotate_left
    · intro w hSw
      try dsimp only at hSw
      go_simp
      try (with_reducible rfl)
    try simp only [Act.put, List.setIfInBounds_toArray, List.set_cons_zero, List.set_cons_succ]
    refine wpAnyH_ready (rs := [15]) (by kernel_rfl) (by simp) ?_
    refine AllReadyH.cons rfl (fun K hK => ?_) AllReadyH.nil
    go_simp
    refine hK.out _ _ ⟨(HQ.out 4).trans q4, (HQ.out 5).trans q5, (HQ.out 6).trans q6⟩ (fun hS4 => ?_)
    clear hK K
    try simp only [Act.put, List.setIfInBounds_toArray, List.set_cons_zero, List.set_cons_succ]
    refine wpAnyH_done (by kernel_rfl) ?_ _
    try simp only [Act.put, List.setIfInBounds_toArray, List.set_cons_zero, List.set_cons_succ, List.getElem_toArray, List.getElem_cons_succ, List.getElem_cons_zero]
    clear hS0 hS1 hS2 hS3 hS4 q4 q5 q6 c6 f6
    go_end0
    exact ⟨rfl, _, _, _, by rw [HMM.out]; exact HB5.out⟩
  · go_simp
    refine hK.out _ _ HS2.out (fun hS1 => ?_)
    clear hK K
    try simp only [Act.put, List.setIfInBounds_toArray, List.set_cons_zero, List.set_cons_succ]
    refine wpAnyH_ready (rs := [4]) (by kernel_rfl) (by simp) ?_
    refine AllReadyH.cons rfl (fun K hK => ?_) AllReadyH.nil
    go_simp
    refine hK.out _ _ hS1 (fun hS2 => ?_)
    clear hK K
    try simp only [Act.put, List.setIfInBounds_toArray, List.set_cons_zero, List.set_cons_succ]
    refine wpAnyH_ready (rs := [12]) (by kernel_rfl) (by simp) ?_
    refine AllReadyH.cons rfl (fun K hK => ?_) AllReadyH.nil
    refine step_append_lies _ rfl (.tmp 42) (.tmp 49) 28 rfl w0.heap.size 65 i0 (.agg #[.int .i64 0, .int .i64 0, .int .i64 0, .int .i64 0]) 4 32 Try.underlying28 HI.out HZ0.out HZ1.out HZ2.out rfl (by decide) _ m xs rfl (own_same HXS.out fun k e => ((Up.refl W4).alloc _).drew.block k (HXS.out.lt k e).2) ⟨W4.heap.size, 0, none⟩ 1 1 [.int .i64 0, .int .i64 s.acc.1, .int .i64 s.acc.2.1, .int .i64 s.acc.2.2] rfl rfl (news1 W4 _ _) (by simp [Value.oneCell']) (by decide) (by have := HM.out; unfold maxLen; omega) (by have := HM.out; omega) (by have := HSZ4.out; simp; omega) _ rfl ?_
    intro g5 cap5 w5 hown5 hg5 hat5 hlt5
    obtain ⟨c6, f6, hB5⟩ := HX5.out w5 g5 cap5 hg5 hown5 HOS.out (hat5.imp id (fun e => by rw [e]; simp))
    have HB5 := Lib.hid hB5
    have q4 := hB5.cg.cell 4 (by decide)
    have q5 := hB5.cg.cell 5 (by decide)
    have q6 := hB5.cg.cell 6 (by decide)
    have HBG := Lib.hid hB5.bg
    have ho4 : ∀ j, (w5.setCell ⟨b, 6, none⟩ (.slice (some ⟨g5, 0, none⟩) (m + 1) cap5)).cell? ⟨g, j, none⟩ = w5.cell? ⟨g, j, none⟩ := fun j => cellE (Below.heap_setCell w5 ⟨b, 6, none⟩ _ g HBG.out.symm)
    rw [ho4] at q4 q5 q6
    have HQ := Lib.hid ho4
    clear hB5 hown5 hg5 hat5 hlt5 ho4
    refine hK.out _ _ ⟨q4, q5, q6⟩ (fun hS3 => ?_)
    clear hK K
    try simp only [Act.put, List.setIfInBounds_toArray, List.set_cons_zero, List.set_cons_succ]
    refine wpAnyH_take (i := 13) (v := ?_) rfl (by kernel_rfl) (by kernel_rfl) (by kernel_rfl) (fun _ _ _ h => h) (Or.inl ⟨by kernel_rfl, ?_⟩) hS3 ?_
    rotate_left
    · intro w hSw
      try dsimp only at hSw
      go_simp
      try (with_reducible rfl)
    try simp only [Act.put, List.setIfInBounds_toArray, List.set_cons_zero, List.set_cons_succ]
    refine wpAnyH_take (i := 14) (v := ?_) rfl (by kernel_rfl) (by kernel_rfl) (by kernel_rfl) (fun _ _ _ h => h) (Or.inl ⟨by kernel_rfl, ?_⟩) hS3 ?_
    rotate_left
    · intro w hSw
      try dsimp only at hSw
      go_simp
      try (with_reducible rfl)
    try simp only [Act.put, List.setIfInBounds_toArray, List.set_cons_zero, List.set_cons_succ]
    refine wpAnyH_ready (rs := [15]) (by kernel_rfl) (by simp) ?_
    refine AllReadyH.cons rfl (fun K hK => ?_) AllReadyH.nil
    go_simp
    refine hK.out _ _ ⟨(HQ.out 4).trans q4, (HQ.out 5).trans q5, (HQ.out 6).trans q6⟩ (fun hS4 => ?_)
    clear hK K
    try simp only [Act.put, List.setIfInBounds_toArray, List.set_cons_zero, List.set_cons_succ]
    refine wpAnyH_done (by kernel_rfl) ?_ _
    try simp only [Act.put, List.setIfInBounds_toArray, List.set_cons_zero, List.set_cons_succ, List.getElem_toArray, List.getElem_cons_succ, List.getElem_cons_zero]
    clear hS0 hS1 hS2 hS3 hS4 q4 q5 q6 c6 f6
    go_end0
    exact ⟨rfl, _, _, _, by rw [HMM.out]; exact HB5.out⟩

end Go.Proofs.Ytedkgamecdmjdaa
