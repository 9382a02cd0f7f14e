/-
  A whole bank in memory: its cells beside one another; what calls leave.
-/
import Derived.Test.YtedkgamecdmjdaaBankS
import Derived.Test.YtedkgamecdmjdaaBankP
import Derived.Test.YtedkgamecdmjdaaBankM
set_option linter.unusedVariables false
set_option linter.unusedSimpArgs false
namespace Go.Proofs.Ytedkgamecdmjdaa
open Go.RowKit

/-- The blocks of a cell. -/
def Ft (g : Nat) (ms : Nat → Value) (k : Nat) : Prop := k = g ∨ ∃ i, i < 8 ∧ (ms i).ownBlock = some k
theorem CellIs.ft_lt {w : World} {g : Nat} {c : CS} {ms : Nat → Value} (H : CellIs w g g c ms) {k : Nat} (h : Ft g ms k) : g ≤ k ∧ k < w.heap.size := by
  rcases h with rfl | ⟨i, hi, e⟩
  · exact ⟨Nat.le_refl _, H.lt⟩
  · exact (H.own i hi).ge k e
structure Cells (w : World) (u : List (Int × CS)) (N B h m : Nat) (R : Value) (F : Int → Option Nat) (MS : Int → Nat → Value) (X : Nat → Prop) : Prop where
  dom : ∀ q, (F q).isSome = (getU u q).isSome
  cell : ∀ q g c, F q = some g → getU u q = some c → CellIs w g g c (MS q) ∧ CGood c N
  ft : ∀ q g, F q = some g → ∀ k, Ft g (MS q) k → X k ∧ k ≠ h ∧ k ≠ m ∧ R.ownBlock ≠ some k
  two : ∀ q q' g g', q ≠ q' → F q = some g → F q' = some g' → ∀ k, Ft g (MS q) k → ¬ Ft g' (MS q') k
  rng : ∀ q g, F q = some g → Wf q
theorem Cells.get {w : World} {u : List (Int × CS)} {N B h m : Nat} {R : Value} {F : Int → Option Nat} {MS : Int → Nat → Value} {X : Nat → Prop} (H : Cells w u N B h m R F MS X) {q : Int} {g : Nat} (hq : F q = some g) : ∃ c, getU u q = some c := by
  have := H.dom q
  rw [hq] at this
  cases hc : getU u q with
  | none => rw [hc] at this; cases this
  | some c => exact ⟨c, rfl⟩
theorem Cells.congr {w : World} {u u' : List (Int × CS)} {N B h m : Nat} {R : Value} {F F' : Int → Option Nat} {MS : Int → Nat → Value} {X : Nat → Prop} (H : Cells w u N B h m R F MS X) (hu : ∀ q, getU u' q = getU u q) (hF : ∀ q, F' q = F q) : Cells w u' N B h m R F' MS X :=
  ⟨fun q => by rw [hu, hF]; exact H.dom q, fun q g c h1 h2 => H.cell q g c (by rw [← hF]; exact h1) (by rw [← hu]; exact h2), fun q g h1 => H.ft q g (by rw [← hF]; exact h1), fun q q' g g' hne h1 h2 => H.two q q' g g' hne (by rw [← hF]; exact h1) (by rw [← hF]; exact h2), fun q g h1 => H.rng q g (by rw [← hF]; exact h1)⟩
theorem Cells.more {w : World} {u : List (Int × CS)} {N N' B h m : Nat} {R : Value} {F : Int → Option Nat} {MS : Int → Nat → Value} {X X' : Nat → Prop} (H : Cells w u N B h m R F MS X) (hN : N ≤ N') (hX : ∀ k, X k → X' k) : Cells w u N' B h m R F MS X' :=
  ⟨H.dom, fun q g c h1 h2 => ⟨(H.cell q g c h1 h2).1, (H.cell q g c h1 h2).2.more hN⟩, fun q g h1 k hk => ⟨hX k (H.ft q g h1 k hk).1, (H.ft q g h1 k hk).2⟩, H.two, H.rng⟩
/-- Where the blocks of its cells stay. -/
theorem Cells.keep {w w' : World} {u : List (Int × CS)} {N B h m : Nat} {R : Value} {F : Int → Option Nat} {MS : Int → Nat → Value} {X : Nat → Prop} (H : Cells w u N B h m R F MS X) (hs : w.heap.size ≤ w'.heap.size)
    (hk : ∀ q g, F q = some g → ∀ k, Ft g (MS q) k → w'.heap[k]? = w.heap[k]?) : Cells w' u N B h m R F MS X :=
  ⟨H.dom, fun q g c h1 h2 => ⟨(H.cell q g c h1 h2).1.keep hs (hk q g h1 g (.inl rfl)) (fun i hi k e => hk q g h1 k (.inr ⟨i, hi, e⟩)), (H.cell q g c h1 h2).2⟩, H.ft, H.two, H.rng⟩
theorem Cells.lt {w : World} {u : List (Int × CS)} {N B h m : Nat} {R : Value} {F : Int → Option Nat} {MS : Int → Nat → Value} {X : Nat → Prop} (H : Cells w u N B h m R F MS X) {q : Int} {g : Nat} (hq : F q = some g) {k : Nat} (hk : Ft g (MS q) k) : k < w.heap.size := by
  obtain ⟨c, hc⟩ := H.get hq
  exact ((H.cell q g c hq hc).1.ft_lt hk).2
theorem Cells.up {w w' : World} {u : List (Int × CS)} {N B h m : Nat} {R : Value} {F : Int → Option Nat} {MS : Int → Nat → Value} {X : Nat → Prop} (H : Cells w u N B h m R F MS X) (up : Up w w') : Cells w' u N B h m R F MS X :=
  H.keep up.size fun q g hq k hk => up.block k (H.lt hq hk)
def setMS (MS : Int → Nat → Value) (q : Int) (ms : Nat → Value) : Int → Nat → Value := fun x => if x = q then ms else MS x
/-- The footprint, grown. -/
def XG (X : Nat → Prop) (w w' : World) : Nat → Prop := fun k => X k ∨ (w.heap.size ≤ k ∧ k < w'.heap.size)
/-- A call on one cell. -/
theorem Cells.step {w w' : World} {u : List (Int × CS)} {N N' B h m g : Nat} {R : Value} {F : Int → Option Nat} {MS : Int → Nat → Value} {X : Nat → Prop} {q : Int} {c' : CS} {ms' : Nat → Value} (H : Cells w u N B h m R F MS X) (hN : N ≤ N')
    (hh : h < w.heap.size) (hm : m < w.heap.size) (hR : ∀ k, R.ownBlock = some k → k < w.heap.size)
    (hq : F q = some g) (hc : CellIs w' g g c' ms') (hg : CGood c' N') (hf : CFrame w w' g (MS q) ms') : Cells w' (putU u q c') N' B h m R F (setMS MS q ms') (XG X w w') := by
  refine ⟨fun x => ?_, fun x gx cx h1 h2 => ?_, fun x gx h1 k hk => ?_, fun x x' gx gx' hne h1 h2 k hk hk' => ?_, H.rng⟩
  · by_cases e : x = q
    · rw [e, getU_same, hq]; rfl
    · rw [getU_other e]; exact H.dom x
  · unfold setMS
    by_cases e : x = q
    · subst e
      rw [getU_same, Option.some.injEq] at h2
      subst h2
      rw [hq, Option.some.injEq] at h1
      subst h1
      rw [if_pos rfl]
      exact ⟨hc, hg⟩
    · rw [if_neg e]
      rw [getU_other e] at h2
      obtain ⟨p1, p2⟩ := H.cell x gx cx h1 h2
      have hb : ∀ k, Ft gx (MS x) k → w'.heap[k]? = w.heap[k]? := fun k hk => by
        have hn := H.two x q gx g e h1 hq k hk
        exact hf.block k (H.lt h1 hk) (fun e2 => hn (.inl e2)) (fun i hi e2 => hn (.inr ⟨i, hi, e2⟩))
      exact ⟨p1.keep hf.size (hb gx (.inl rfl)) (fun i hi k e2 => hb k (.inr ⟨i, hi, e2⟩)), p2.more hN⟩
  · unfold setMS at hk
    by_cases e : x = q
    · subst e
      rw [if_pos rfl] at hk
      rw [hq, Option.some.injEq] at h1
      subst h1
      have hlt := (hc.ft_lt hk).2
      have hold : ∀ k, Ft g (MS x) k → XG X w w' k ∧ k ≠ h ∧ k ≠ m ∧ R.ownBlock ≠ some k := fun k h => ⟨.inl (H.ft x g hq k h).1, (H.ft x g hq k h).2⟩
      rcases hk with rfl | ⟨i, hi, e2⟩
      · exact hold k (.inl rfl)
      · rcases hf.new i hi k e2 with ⟨j, hj, e3⟩ | hge
        · exact hold k (.inr ⟨j, hj, e3⟩)
        · exact ⟨.inr ⟨hge, hlt⟩, by omega, by omega, fun e3 => by have := hR k e3; omega⟩
    · rw [if_neg e] at hk
      exact ⟨.inl (H.ft x gx h1 k hk).1, (H.ft x gx h1 k hk).2⟩
  · have key : ∀ y gy, y ≠ q → F y = some gy → Ft gy (MS y) k → ¬ Ft g ms' k := fun y gy e hy hky hk' => by
      have hn := H.two y q gy g e hy hq k hky
      rcases hk' with rfl | ⟨i, hi, e2⟩
      · exact hn (.inl rfl)
      · rcases hf.new i hi k e2 with ⟨j, hj, e3⟩ | hge
        · exact hn (.inr ⟨j, hj, e3⟩)
        · have := H.lt hy hky; omega
    unfold setMS at hk hk'
    by_cases e : x = q
    · have e' : x' ≠ q := fun h => hne (by rw [e, h])
      subst e
      rw [if_pos rfl] at hk
      rw [if_neg e'] at hk'
      rw [hq, Option.some.injEq] at h1
      subst h1
      exact key x' gx' e' h2 hk' hk
    · rw [if_neg e] at hk
      by_cases e' : x' = q
      · subst e'
        rw [if_pos rfl] at hk'
        rw [hq, Option.some.injEq] at h2
        subst h2
        exact key x gx e h1 hk hk'
      · rw [if_neg e'] at hk'
        exact H.two x x' gx gx' hne h1 h2 k hk hk'
/-- A new cell. -/
theorem Cells.add {w w' : World} {u : List (Int × CS)} {N B h m g : Nat} {R : Value} {F : Int → Option Nat} {MS : Int → Nat → Value} {X : Nat → Prop} {q : Int} {c' : CS} (H : Cells w u N B h m R F MS X)
    (hh : h < w.heap.size) (hm : m < w.heap.size) (hR : ∀ k, R.ownBlock = some k → k < w.heap.size)
    (up : Up w w') (hge : w.heap.size ≤ g) (hc : CellIs w' g g c' (fun _ => .slice none 0 0)) (hg : CGood c' N) (hw : Wf q) : Cells w' (putU u q c') N B h m R (fun x => if x = q then some g else F x) (setMS MS q (fun _ => .slice none 0 0)) (XG X w w') := by
  have hft : ∀ k, Ft g (fun _ => Value.slice none 0 0) k → k = g := fun k hk => by
    rcases hk with e | ⟨i, hi, e⟩
    · exact e
    · simp [Value.ownBlock] at e
  have H' := H.up up
  refine ⟨fun x => ?_, fun x gx cx h1 h2 => ?_, fun x gx h1 k hk => ?_, fun x x' gx gx' hne h1 h2 k hk hk' => ?_, fun x gx h1 => ?_⟩
  rotate_right
  · by_cases e : x = q
    · rw [e]; exact hw
    · rw [if_neg e] at h1; exact H.rng x gx h1
  · by_cases e : x = q
    · rw [e, getU_same, if_pos rfl]; rfl
    · rw [getU_other e, if_neg e]; exact H.dom x
  · unfold setMS
    by_cases e : x = q
    · subst e
      rw [getU_same, Option.some.injEq] at h2
      subst h2
      rw [if_pos rfl, Option.some.injEq] at h1
      subst h1
      rw [if_pos rfl]
      exact ⟨hc, hg⟩
    · rw [if_neg e]
      rw [getU_other e] at h2
      rw [if_neg e] at h1
      exact H'.cell x gx cx h1 h2
  · unfold setMS at hk
    by_cases e : x = q
    · subst e
      rw [if_pos rfl] at hk
      rw [if_pos rfl, Option.some.injEq] at h1
      subst h1
      have := hft k hk
      subst this
      exact ⟨.inr ⟨hge, hc.lt⟩, by omega, by omega, fun e3 => by have := hR k e3; omega⟩
    · rw [if_neg e] at hk h1
      exact ⟨.inl (H.ft x gx h1 k hk).1, (H.ft x gx h1 k hk).2⟩
  · unfold setMS at hk hk'
    by_cases e : x = q
    · have e' : x' ≠ q := fun h => hne (by rw [e, h])
      subst e
      rw [if_pos rfl] at hk h1
      rw [if_neg e'] at hk' h2
      rw [Option.some.injEq] at h1
      subst h1
      have := hft k hk
      have := H.lt h2 hk'
      omega
    · rw [if_neg e] at hk h1
      by_cases e' : x' = q
      · subst e'
        rw [if_pos rfl] at hk' h2
        rw [Option.some.injEq] at h2
        subst h2
        have := hft k hk'
        have := H.lt h1 hk
        omega
      · rw [if_neg e'] at hk' h2
        exact H.two x x' gx gx' hne h1 h2 k hk hk'

/-- The strips are fine. -/
structure Fit (l : List SD) : Prop where
  all : allF l l.length = true
  few : cntK l l.length ≤ 32768
  len : l.length ≤ 1000
/-- A bank at block h; X: its blocks. -/
def BankM (w : World) (B h : Nat) (l : List SD) (s : BS) (N : Nat) (X : Nat → Prop) : Prop :=
  ∃ m R sz F MS, BankO w B h m R (cntK l l.length) (runsK l l.length) s.by' sz F ∧ Cells w s.u N B h m R F MS X ∧ (X h ∧ X m ∧ ∀ k, R.ownBlock = some k → X k) ∧ (∀ k, X k → B ≤ k ∧ k < w.heap.size) ∧ sz ≤ N ∧ s.Good
theorem BankM.keep {w w' : World} {B h : Nat} {l : List SD} {s : BS} {N : Nat} {X : Nat → Prop} (H : BankM w B h l s N X) (hs : w.heap.size ≤ w'.heap.size) (hk : ∀ k, X k → w'.heap[k]? = w.heap[k]?) : BankM w' B h l s N X := by
  obtain ⟨m, R, sz, F, MS, h1, h2, h3, h4, h5, h6⟩ := H
  exact ⟨m, R, sz, F, MS, h1.keep (hk _ h3.1) (hk _ h3.2.1) (fun k e => hk k (h3.2.2 k e)), h2.keep hs (fun q g hq k hk' => hk k (h2.ft q g hq k hk').1), h3, fun k hk' => ⟨(h4 k hk').1, Nat.lt_of_lt_of_le (h4 k hk').2 hs⟩, h5, h6⟩
theorem BankM.up {w w' : World} {B h : Nat} {l : List SD} {s : BS} {N : Nat} {X : Nat → Prop} (H : BankM w B h l s N X) (u : Up w w') : BankM w' B h l s N X :=
  H.keep u.size fun k hk => by
    obtain ⟨m, R, sz, F, MS, h1, h2, h3, h4, h5, h6⟩ := H
    exact u.block k (h4 k hk).2
theorem BankM.lt {w : World} {B h : Nat} {l : List SD} {s : BS} {N : Nat} {X : Nat → Prop} (H : BankM w B h l s N X) : ∀ k, X k → B ≤ k ∧ k < w.heap.size := by
  obtain ⟨m, R, sz, F, MS, h1, h2, h3, h4, h5, h6⟩ := H
  exact h4
theorem BankM.more {w : World} {B h : Nat} {l : List SD} {s : BS} {N N' : Nat} {X X' : Nat → Prop} (H : BankM w B h l s N X) (hN : N ≤ N') (hX : ∀ k, X k → X' k) (hX' : ∀ k, X' k → B ≤ k ∧ k < w.heap.size) : BankM w B h l s N' X' := by
  obtain ⟨m, R, sz, F, MS, h1, h2, h3, h4, h5, h6⟩ := H
  exact ⟨m, R, sz, F, MS, h1, h2.more hN hX, ⟨hX _ h3.1, hX _ h3.2.1, fun k e => hX _ (h3.2.2 k e)⟩, hX', Nat.le_trans h5 hN, h6⟩
/-- What a call on a bank leaves of all else. -/
structure Fr (w w' : World) (X : Nat → Prop) : Prop where
  os : w'.os = w.os
  tape : w'.tape = w.tape
  output : w'.output = w.output
  size : w.heap.size ≤ w'.heap.size
  block : ∀ k, k < w.heap.size → ¬ X k → w'.heap[k]? = w.heap[k]?
theorem Fr.ofUp {w w' : World} {X : Nat → Prop} (u : Up w w') : Fr w w' X := ⟨u.os, u.tape, u.output, u.size, fun k hk _ => u.block k hk⟩
theorem Fr.trans {w w1 w2 : World} {X X1 : Nat → Prop} (f : Fr w w1 X) (f2 : Fr w1 w2 X1) (hX : ∀ k, k < w.heap.size → X1 k → X k) : Fr w w2 X :=
  ⟨f2.os.trans f.os, f2.tape.trans f.tape, f2.output.trans f.output, Nat.le_trans f.size f2.size, fun k hk hn => (f2.block k (Nat.lt_of_lt_of_le hk f.size) (fun h => hn (hX k hk h))).trans (f.block k hk hn)⟩
theorem Fr.same {w w1 w2 : World} {X : Nat → Prop} (f : Fr w w1 X) (f2 : Fr w1 w2 X) : Fr w w2 X := f.trans f2 fun k _ h => h
theorem Fr.toUp {w0 w w' : World} {X : Nat → Prop} (f : Fr w w' X) (u : Up w0 w) (h : ∀ k, X k → w0.heap.size ≤ k) : Up w0 w' :=
  ⟨f.os.trans u.os, f.tape.trans u.tape, f.output.trans u.output, Nat.le_trans u.size f.size, fun k hk => (f.block k (Nat.lt_of_lt_of_le hk u.size) (fun hx => by have := h k hx; omega)).trans (u.block k hk)⟩
theorem XG.ge {X : Nat → Prop} {w w' : World} {B : Nat} (h : ∀ k, X k → B ≤ k ∧ k < w.heap.size) (hs : w.heap.size ≤ w'.heap.size) (hB : B ≤ w.heap.size) : ∀ k, XG X w w' k → B ≤ k ∧ k < w'.heap.size := fun k hk => by
  rcases hk with hk | hk
  · exact ⟨(h k hk).1, Nat.lt_of_lt_of_le (h k hk).2 hs⟩
  · exact ⟨by omega, hk.2⟩
/-- Two banks: their blocks apart. -/
theorem BankM.beside {w w' : World} {B h : Nat} {l : List SD} {s : BS} {N : Nat} {X Y : Nat → Prop} (H : BankM w B h l s N X) (f : Fr w w' Y) (hXY : ∀ k, X k → ¬ Y k) : BankM w' B h l s N X :=
  H.keep f.size fun k hk => f.block k (H.lt k hk).2 (hXY k hk)

end Go.Proofs.Ytedkgamecdmjdaa

/-
  Stores into a bank's block and map; New, Value, End of a bank.
-/
namespace Go.Proofs.Ytedkgamecdmjdaa
open Go.RowKit

def st2 (w : World) (h o : Nat) (a b : Value) : World := (w.setCell ⟨h, o, none⟩ a).setCell ⟨h, o + 1, none⟩ b
theorem st2_other (w : World) (h o : Nat) (a b : Value) : ∀ k, k ≠ h → (st2 w h o a b).heap[k]? = w.heap[k]? := fun k hk =>
  (Below.heap_setCell (w.setCell ⟨h, o, none⟩ a) ⟨h, o + 1, none⟩ b k hk).trans (Below.heap_setCell w ⟨h, o, none⟩ a k hk)
theorem st2_size (w : World) (h o : Nat) (a b : Value) : (st2 w h o a b).heap.size = w.heap.size := by unfold st2; simp
theorem st2_fr (w : World) (h o : Nat) (a b : Value) (X : Nat → Prop) (hX : X h) : Fr w (st2 w h o a b) X := ⟨rfl, rfl, rfl, by rw [st2_size]; exact Nat.le_refl _, fun k _ hn => st2_other w h o a b k (fun e => hn (by rw [e]; exact hX))⟩
theorem BankB.setBy {w : World} {h : Nat} {R : Value} {many : Int} {m : Nat} {by' : Nat → Bool × Int} (H : BankB w h R many m by') (t : Nat) (ht : t < 8) (p : Bool × Int) :
    BankB (st2 w h (3 + t * 2) (.bool p.1) (.int .i64 p.2)) h R many m (fun i => if i = t then p else by' i) := by
  unfold st2
  have ho : ∀ j, j ≠ 3 + t * 2 → j ≠ 3 + t * 2 + 1 → ((w.setCell ⟨h, 3 + t * 2, none⟩ (.bool p.1)).setCell ⟨h, 3 + t * 2 + 1, none⟩ (.int .i64 p.2)).cell? ⟨h, j, none⟩ = w.cell? ⟨h, j, none⟩ := fun j h1 h2 =>
    (World.cell?_setCell_other _ _ _ _ (by simp <;> omega)).trans (World.cell?_setCell_other _ _ _ _ (by simp <;> omega))
  refine ⟨(ho 0 (by omega) (by omega)).trans H.k0, (ho 1 (by omega) (by omega)).trans H.k1, (ho 2 (by omega) (by omega)).trans H.k2, fun i hi => ?_, fun i hi => ?_, fun j => by simpa [go_sem] using H.fz j⟩
  · by_cases e : i = t
    · subst e
      rw [if_pos rfl]
      exact (World.cell?_setCell_other _ _ _ _ (by simp <;> omega)).trans (World.cell?_setCell_same _ _ _ (H.on i hi))
    · rw [if_neg e]
      exact (ho _ (by omega) (by omega)).trans (H.on i hi)
  · by_cases e : i = t
    · subst e
      rw [if_pos rfl]
      exact World.cell?_setCell_same _ _ _ ((World.cell?_setCell_other _ _ _ _ (by simp <;> omega)).trans (H.at' i hi))
    · rw [if_neg e]
      exact (ho _ (by omega) (by omega)).trans (H.at' i hi)
theorem BankO.setBy {w : World} {B h m : Nat} {R : Value} {many : Int} {rs : List (Int × SD)} {by' : Nat → Bool × Int} {sz : Nat} {F : Int → Option Nat} (H : BankO w B h m R many rs by' sz F) (t : Nat) (ht : t < 8) (p : Bool × Int) :
    BankO (st2 w h (3 + t * 2) (.bool p.1) (.int .i64 p.2)) B h m R many rs (fun i => if i = t then p else by' i) sz F :=
  ⟨H.blk.setBy t ht p, own_same H.row fun k e => st2_other _ _ _ _ _ k (fun e2 => H.rh (by rw [e, e2])), H.map.up (st2_other _ _ _ _ _ m (fun e => H.hm e.symm)), H.hm, H.rh, H.rm, H.geh, H.gem⟩
theorem Cells.st2 {w : World} {u : List (Int × CS)} {N B h m : Nat} {R : Value} {F : Int → Option Nat} {MS : Int → Nat → Value} {X : Nat → Prop} (H : Cells w u N B h m R F MS X) (o : Nat) (a b : Value) : Cells (st2 w h o a b) u N B h m R F MS X :=
  H.keep (by rw [st2_size]; exact Nat.le_refl _) fun q g hq k hk => st2_other _ _ _ _ _ k (H.ft q g hq k hk).2.1
theorem BankO.store {w : World} {B h m : Nat} {R : Value} {many : Int} {rs : List (Int × SD)} {by' : Nat → Bool × Int} {sz : Nat} {F : Int → Option Nat} (H : BankO w B h m R many rs by' sz F) (hn : sz < maxLen) {q : Int} (hq : Wf q) (g : Nat) :
    ∃ W', (Instr.mapUpdate 86 (.map (some m)) (.int .i64 q) (.pointer (some ⟨g, 0, none⟩))).run Try.prog w = .ok () W' ∧ BankO W' B h m R many rs by' (sz + 1) (fun x => if x = q then some g else F x) ∧ w.grownBy W' (some m) := by
  obtain ⟨W', h1, h2, h3⟩ := H.map.store hn hq g
  have hk : ∀ k, k < w.heap.size → k ≠ m → W'.heap[k]? = w.heap[k]? := fun k hk hne => h3.block k hk (fun e => hne (by injection e))
  exact ⟨W', h1, ⟨H.blk.same (hk h H.blk.lt H.hm), own_same H.row (fun k e => hk k (H.row.lt k e).2 (fun e2 => H.rm (by rw [e, e2]))), h2, H.hm, H.rh, H.rm, H.geh, H.gem⟩, h3⟩
theorem grown_fr {w w' : World} {m : Nat} {X : Nat → Prop} (h : w.grownBy w' (some m)) (hX : X m) : Fr w w' X := ⟨h.os, h.tape, h.output, h.size, fun k hk hn => h.block k hk (fun e => hn (by injection e with e; rw [e]; exact hX))⟩
theorem Cells.grown {w w' : World} {u : List (Int × CS)} {N B h m : Nat} {R : Value} {F : Int → Option Nat} {MS : Int → Nat → Value} {X : Nat → Prop} (H : Cells w u N B h m R F MS X) (hg : w.grownBy w' (some m)) : Cells w' u N B h m R F MS X :=
  H.keep hg.size fun q g hq k hk => hg.block k (H.lt hq hk) (fun e => by injection e with e; exact (H.ft q g hq k hk).2.2.1 e)

/-- A new bank. -/
def NewM (l : List SD) (w : World) (e : Ending) (w' : World) : Prop :=
  if (countP l).2 ≠ 0 then e = .returned (.tuple #[.pointer none, .int .i64 (countP l).2]) ∧ Up w w'
  else ∃ h X, e = .returned (.tuple #[.pointer (some ⟨h, 0, none⟩), .int .i64 0]) ∧ BankM w' w.heap.size h l bs0 0 X ∧ Up w w'
theorem fit_of {l : List SD} (hl : l.length ≤ 1000) (h : (countP l).2 = 0) : Fit l ∧ (countP l).1 = cntK l l.length := by
  unfold countP at h ⊢
  split at h
  · rename_i ha
    split at h
    · cases h
    · rename_i hc
      rw [if_pos ha, if_neg hc]
      exact ⟨⟨ha, by omega, hl⟩, rfl⟩
  · cases h
theorem newM_any (l : List SD) (A : Option Addr) (c : Nat) (w : World) (hl : l.length ≤ 1000) (hr : StripRow w A l) :
    Calls Try.prog 25 #[.slice A l.length c] w (NewM l w) := by
  refine (newB_any l A c w hl hr).mono fun e w' hp => ?_
  unfold NewPost at hp
  unfold NewM
  by_cases h0 : (countP l).2 ≠ 0
  · rw [if_pos h0] at hp ⊢
    exact hp
  · rw [if_neg h0] at hp ⊢
    obtain ⟨hf, h1⟩ := fit_of hl (by omega)
    obtain ⟨h, m, R, he, hb, hu⟩ := hp
    rw [h1] at hb
    refine ⟨h, fun k => k = h ∨ k = m ∨ R.ownBlock = some k, he, ⟨m, R, 0, fun _ => none, fun _ _ => .slice none 0 0, hb, ⟨fun q => rfl, fun q g c hq => (by cases hq), fun q g hq => (by cases hq), fun q q' g g' _ hq => (by cases hq), fun q g hq => (by cases hq)⟩, ⟨.inl rfl, .inr (.inl rfl), fun k e => .inr (.inr e)⟩, fun k hk => ?_, Nat.le_refl _, bs0_good⟩, hu⟩
    rcases hk with rfl | rfl | e
    · exact ⟨hb.geh, hb.blk.lt⟩
    · exact ⟨hb.gem, hb.map.isLt⟩
    · exact hb.row.lt k e

theorem valueM_any (l : List SD) (B h N : Nat) (s : BS) (X : Nat → Prop) (n : Int) (w : World) (hn : Wf n) (H : BankM w B h l s N X) :
    Calls Try.prog 20 #[.pointer (some ⟨h, 0, none⟩), .int .i64 n] w fun e w' => e = .returned (.int .i64 (s.value n)) ∧ w' = w := by
  obtain ⟨m, R, sz, F, MS, h1, h2, h3, h4, h5, h6⟩ := H
  refine bvalue_any h R _ m sz s.by' F n (s.value n) w hn h1.blk h1.map ?_
  have hd := h2.dom n
  unfold BS.value
  cases hF : F n with
  | none =>
    rw [hF] at hd
    cases hg : getU s.u n with
    | some c => rw [hg] at hd; cases hd
    | none => exact value_nil w
  | some g =>
    obtain ⟨c, hc⟩ := h2.get hF
    rw [hc]
    exact value_any g g c (MS n) w (h2.cell n g c hF hc).1
theorem busyM_any (l : List SD) (B h N : Nat) (s : BS) (X : Nat → Prop) (t : Int) (w : World) (ht0 : -9223372036854775808 ≤ t) (ht1 : t ≤ 9223372036854775807) (H : BankM w B h l s N X) :
    Calls Try.prog 43 #[.pointer (some ⟨h, 0, none⟩), .int .i64 t] w fun e w' => e = .returned (.tuple #[.int .i64 (s.busy t).1, .bool (s.busy t).2]) ∧ Up w w' := by
  obtain ⟨m, R, sz, F, MS, h1, h2, h3, h4, h5, h6⟩ := H
  exact bbusy_any h R _ m s t w ht0 ht1 h1.blk

end Go.Proofs.Ytedkgamecdmjdaa
