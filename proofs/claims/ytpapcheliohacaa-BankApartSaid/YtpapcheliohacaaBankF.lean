/-
  A whole bank in memory: its cells beside one another; what calls leave.
-/
import Derived.Test.YtpapcheliohacaaBankS
import Derived.Test.YtpapcheliohacaaBankP
set_option linter.unusedVariables false
set_option linter.unusedSimpArgs false
namespace Go.Proofs.Ytpapcheliohacaa
open Go.RowKit

/-- The blocks of a cell. -/
def Ft (g : Nat) (ms : Nat → Value) (k : Nat) : Prop := k = g ∨ ∃ i, i < 8 ∧ (ms i).ownBlock = some k
theorem CellIs.ft_lt {w : World} {g : Nat} {c : CS} {ms : Nat → Value} (H : CellIs w g g c ms) {k : Nat} (h : Ft g ms k) : g ≤ k ∧ k < w.heap.size := by
  rcases h with rfl | ⟨i, hi, e⟩
  · exact ⟨Nat.le_refl _, H.lt⟩
  · exact (H.own i hi).ge k e
structure Cells (w : World) (u : List (Int × CS)) (N B h m : Nat) (R : Value) (F : Int → Option Nat) (MS : Int → Nat → Value) (X : Nat → Prop) : Prop where
  dom : ∀ q, (F q).isSome = (getU u q).isSome
  cell : ∀ q g c, F q = some g → getU u q = some c → CellIs w g g c (MS q) ∧ CGood c N
  ft : ∀ q g, F q = some g → ∀ k, Ft g (MS q) k → X k ∧ k ≠ h ∧ k ≠ m ∧ R.ownBlock ≠ some k
  two : ∀ q q' g g', q ≠ q' → F q = some g → F q' = some g' → ∀ k, Ft g (MS q) k → ¬ Ft g' (MS q') k
  rng : ∀ q g, F q = some g → Wf q
theorem Cells.get {w : World} {u : List (Int × CS)} {N B h m : Nat} {R : Value} {F : Int → Option Nat} {MS : Int → Nat → Value} {X : Nat → Prop} (H : Cells w u N B h m R F MS X) {q : Int} {g : Nat} (hq : F q = some g) : ∃ c, getU u q = some c := by
  have := H.dom q
  rw [hq] at this
  cases hc : getU u q with
  | none => rw [hc] at this; cases this
  | some c => exact ⟨c, rfl⟩
theorem Cells.congr {w : World} {u u' : List (Int × CS)} {N B h m : Nat} {R : Value} {F F' : Int → Option Nat} {MS : Int → Nat → Value} {X : Nat → Prop} (H : Cells w u N B h m R F MS X) (hu : ∀ q, getU u' q = getU u q) (hF : ∀ q, F' q = F q) : Cells w u' N B h m R F' MS X :=
  ⟨fun q => by rw [hu, hF]; exact H.dom q, fun q g c h1 h2 => H.cell q g c (by rw [← hF]; exact h1) (by rw [← hu]; exact h2), fun q g h1 => H.ft q g (by rw [← hF]; exact h1), fun q q' g g' hne h1 h2 => H.two q q' g g' hne (by rw [← hF]; exact h1) (by rw [← hF]; exact h2), fun q g h1 => H.rng q g (by rw [← hF]; exact h1)⟩
theorem Cells.more {w : World} {u : List (Int × CS)} {N N' B h m : Nat} {R : Value} {F : Int → Option Nat} {MS : Int → Nat → Value} {X X' : Nat → Prop} (H : Cells w u N B h m R F MS X) (hN : N ≤ N') (hX : ∀ k, X k → X' k) : Cells w u N' B h m R F MS X' :=
  ⟨H.dom, fun q g c h1 h2 => ⟨(H.cell q g c h1 h2).1, (H.cell q g c h1 h2).2.more hN⟩, fun q g h1 k hk => ⟨hX k (H.ft q g h1 k hk).1, (H.ft q g h1 k hk).2⟩, H.two, H.rng⟩
/-- Where the blocks of its cells stay. -/
theorem Cells.keep {w w' : World} {u : List (Int × CS)} {N B h m : Nat} {R : Value} {F : Int → Option Nat} {MS : Int → Nat → Value} {X : Nat → Prop} (H : Cells w u N B h m R F MS X) (hs : w.heap.size ≤ w'.heap.size)
    (hk : ∀ q g, F q = some g → ∀ k, Ft g (MS q) k → w'.heap[k]? = w.heap[k]?) : Cells w' u N B h m R F MS X :=
  ⟨H.dom, fun q g c h1 h2 => ⟨(H.cell q g c h1 h2).1.keep hs (hk q g h1 g (.inl rfl)) (fun i hi k e => hk q g h1 k (.inr ⟨i, hi, e⟩)), (H.cell q g c h1 h2).2⟩, H.ft, H.two, H.rng⟩
theorem Cells.lt {w : World} {u : List (Int × CS)} {N B h m : Nat} {R : Value} {F : Int → Option Nat} {MS : Int → Nat → Value} {X : Nat → Prop} (H : Cells w u N B h m R F MS X) {q : Int} {g : Nat} (hq : F q = some g) {k : Nat} (hk : Ft g (MS q) k) : k < w.heap.size := by
  obtain ⟨c, hc⟩ := H.get hq
  exact ((H.cell q g c hq hc).1.ft_lt hk).2
theorem Cells.up {w w' : World} {u : List (Int × CS)} {N B h m : Nat} {R : Value} {F : Int → Option Nat} {MS : Int → Nat → Value} {X : Nat → Prop} (H : Cells w u N B h m R F MS X) (up : Up w w') : Cells w' u N B h m R F MS X :=
  H.keep up.size fun q g hq k hk => up.block k (H.lt hq hk)
def setMS (MS : Int → Nat → Value) (q : Int) (ms : Nat → Value) : Int → Nat → Value := fun x => if x = q then ms else MS x
/-- The footprint, grown. -/
def XG (X : Nat → Prop) (w w' : World) : Nat → Prop := fun k => X k ∨ (w.heap.size ≤ k ∧ k < w'.heap.size)
/-- A call on one cell. -/
theorem Cells.step {w w' : World} {u : List (Int × CS)} {N N' B h m g : Nat} {R : Value} {F : Int → Option Nat} {MS : Int → Nat → Value} {X : Nat → Prop} {q : Int} {c' : CS} {ms' : Nat → Value} (H : Cells w u N B h m R F MS X) (hN : N ≤ N')
    (hh : h < w.heap.size) (hm : m < w.heap.size) (hR : ∀ k, R.ownBlock = some k → k < w.heap.size)
    (hq : F q = some g) (hc : CellIs w' g g c' ms') (hg : CGood c' N') (hf : CFrame w w' g (MS q) ms') : Cells w' (putU u q c') N' B h m R F (setMS MS q ms') (XG X w w') := by
  refine ⟨fun x => ?_, fun x gx cx h1 h2 => ?_, fun x gx h1 k hk => ?_, fun x x' gx gx' hne h1 h2 k hk hk' => ?_, H.rng⟩
  · by_cases e : x = q
    · rw [e, getU_same, hq]; rfl
    · rw [getU_other e]; exact H.dom x
  · unfold setMS
    by_cases e : x = q
    · subst e
      rw [getU_same, Option.some.injEq] at h2
      subst h2
      rw [hq, Option.some.injEq] at h1
      subst h1
      rw [if_pos rfl]
      exact ⟨hc, hg⟩
    · rw [if_neg e]
      rw [getU_other e] at h2
      obtain ⟨p1, p2⟩ := H.cell x gx cx h1 h2
      have hb : ∀ k, Ft gx (MS x) k → w'.heap[k]? = w.heap[k]? := fun k hk => by
        have hn := H.two x q gx g e h1 hq k hk
        exact hf.block k (H.lt h1 hk) (fun e2 => hn (.inl e2)) (fun i hi e2 => hn (.inr ⟨i, hi, e2⟩))
      exact ⟨p1.keep hf.size (hb gx (.inl rfl)) (fun i hi k e2 => hb k (.inr ⟨i, hi, e2⟩)), p2.more hN⟩
  · unfold setMS at hk
    by_cases e : x = q
    · subst e
      rw [if_pos rfl] at hk
      rw [hq, Option.some.injEq] at h1
      subst h1
      have hlt := (hc.ft_lt hk).2
      have hold : ∀ k, Ft g (MS x) k → XG X w w' k ∧ k ≠ h ∧ k ≠ m ∧ R.ownBlock ≠ some k := fun k h => ⟨.inl (H.ft x g hq k h).1, (H.ft x g hq k h).2⟩
      rcases hk with rfl | ⟨i, hi, e2⟩
      · exact hold k (.inl rfl)
      · rcases hf.new i hi k e2 with ⟨j, hj, e3⟩ | hge
        · exact hold k (.inr ⟨j, hj, e3⟩)
        · exact ⟨.inr ⟨hge, hlt⟩, by omega, by omega, fun e3 => by have := hR k e3; omega⟩
    · rw [if_neg e] at hk
      exact ⟨.inl (H.ft x gx h1 k hk).1, (H.ft x gx h1 k hk).2⟩
  · have key : ∀ y gy, y ≠ q → F y = some gy → Ft gy (MS y) k → ¬ Ft g ms' k := fun y gy e hy hky hk' => by
      have hn := H.two y q gy g e hy hq k hky
      rcases hk' with rfl | ⟨i, hi, e2⟩
      · exact hn (.inl rfl)
      · rcases hf.new i hi k e2 with ⟨j, hj, e3⟩ | hge
        · exact hn (.inr ⟨j, hj, e3⟩)
        · have := H.lt hy hky; omega
    unfold setMS at hk hk'
    by_cases e : x = q
    · have e' : x' ≠ q := fun h => hne (by rw [e, h])
      subst e
      rw [if_pos rfl] at hk
      rw [if_neg e'] at hk'
      rw [hq, Option.some.injEq] at h1
      subst h1
      exact key x' gx' e' h2 hk' hk
    · rw [if_neg e] at hk
      by_cases e' : x' = q
      · subst e'
        rw [if_pos rfl] at hk'
        rw [hq, Option.some.injEq] at h2
        subst h2
        exact key x gx e h1 hk hk'
      · rw [if_neg e'] at hk'
        exact H.two x x' gx gx' hne h1 h2 k hk hk'
/-- A new cell. -/
theorem Cells.add {w w' : World} {u : List (Int × CS)} {N B h m g : Nat} {R : Value} {F : Int → Option Nat} {MS : Int → Nat → Value} {X : Nat → Prop} {q : Int} {c' : CS} (H : Cells w u N B h m R F MS X)
    (hh : h < w.heap.size) (hm : m < w.heap.size) (hR : ∀ k, R.ownBlock = some k → k < w.heap.size)
    (up : Up w w') (hge : w.heap.size ≤ g) (hc : CellIs w' g g c' (fun _ => .slice none 0 0)) (hg : CGood c' N) (hw : Wf q) : Cells w' (putU u q c') N B h m R (fun x => if x = q then some g else F x) (setMS MS q (fun _ => .slice none 0 0)) (XG X w w') := by
  have hft : ∀ k, Ft g (fun _ => Value.slice none 0 0) k → k = g := fun k hk => by
    rcases hk with e | ⟨i, hi, e⟩
    · exact e
    · simp [Value.ownBlock] at e
  have H' := H.up up
  refine ⟨fun x => ?_, fun x gx cx h1 h2 => ?_, fun x gx h1 k hk => ?_, fun x x' gx gx' hne h1 h2 k hk hk' => ?_, fun x gx h1 => ?_⟩
  rotate_right
  · by_cases e : x = q
    · rw [e]; exact hw
    · rw [if_neg e] at h1; exact H.rng x gx h1
  · by_cases e : x = q
    · rw [e, getU_same, if_pos rfl]; rfl
    · rw [getU_other e, if_neg e]; exact H.dom x
  · unfold setMS
    by_cases e : x = q
    · subst e
      rw [getU_same, Option.some.injEq] at h2
      subst h2
      rw [if_pos rfl, Option.some.injEq] at h1
      subst h1
      rw [if_pos rfl]
      exact ⟨hc, hg⟩
    · rw [if_neg e]
      rw [getU_other e] at h2
      rw [if_neg e] at h1
      exact H'.cell x gx cx h1 h2
  · unfold setMS at hk
    by_cases e : x = q
    · subst e
      rw [if_pos rfl] at hk
      rw [if_pos rfl, Option.some.injEq] at h1
      subst h1
      have := hft k hk
      subst this
      exact ⟨.inr ⟨hge, hc.lt⟩, by omega, by omega, fun e3 => by have := hR k e3; omega⟩
    · rw [if_neg e] at hk h1
      exact ⟨.inl (H.ft x gx h1 k hk).1, (H.ft x gx h1 k hk).2⟩
  · unfold setMS at hk hk'
    by_cases e : x = q
    · have e' : x' ≠ q := fun h => hne (by rw [e, h])
      subst e
      rw [if_pos rfl] at hk h1
      rw [if_neg e'] at hk' h2
      rw [Option.some.injEq] at h1
      subst h1
      have := hft k hk
      have := H.lt h2 hk'
      omega
    · rw [if_neg e] at hk h1
      by_cases e' : x' = q
      · subst e'
        rw [if_pos rfl] at hk' h2
        rw [Option.some.injEq] at h2
        subst h2
        have := hft k hk'
        have := H.lt h1 hk
        omega
      · rw [if_neg e'] at hk' h2
        exact H.two x x' gx gx' hne h1 h2 k hk hk'

/-- The strips are fine. -/
structure Fit (l : List SD) : Prop where
  all : allF l l.length = true
  few : cntK l l.length ≤ 32768
  len : l.length ≤ 1000
/-- A bank at block h; X: its blocks. -/
def BankM (w : World) (B h : Nat) (l : List SD) (s : BS) (N : Nat) (X : Nat → Prop) : Prop :=
  ∃ m R sz F MS, BankO w B h m R (cntK l l.length) (runsK l l.length) s.by' sz F ∧ Cells w s.u N B h m R F MS X ∧ (X h ∧ X m ∧ ∀ k, R.ownBlock = some k → X k) ∧ (∀ k, X k → B ≤ k ∧ k < w.heap.size) ∧ sz ≤ N ∧ s.Good
theorem BankM.keep {w w' : World} {B h : Nat} {l : List SD} {s : BS} {N : Nat} {X : Nat → Prop} (H : BankM w B h l s N X) (hs : w.heap.size ≤ w'.heap.size) (hk : ∀ k, X k → w'.heap[k]? = w.heap[k]?) : BankM w' B h l s N X := by
  obtain ⟨m, R, sz, F, MS, h1, h2, h3, h4, h5, h6⟩ := H
  exact ⟨m, R, sz, F, MS, h1.keep (hk _ h3.1) (hk _ h3.2.1) (fun k e => hk k (h3.2.2 k e)), h2.keep hs (fun q g hq k hk' => hk k (h2.ft q g hq k hk').1), h3, fun k hk' => ⟨(h4 k hk').1, Nat.lt_of_lt_of_le (h4 k hk').2 hs⟩, h5, h6⟩
theorem BankM.up {w w' : World} {B h : Nat} {l : List SD} {s : BS} {N : Nat} {X : Nat → Prop} (H : BankM w B h l s N X) (u : Up w w') : BankM w' B h l s N X :=
  H.keep u.size fun k hk => by
    obtain ⟨m, R, sz, F, MS, h1, h2, h3, h4, h5, h6⟩ := H
    exact u.block k (h4 k hk).2
theorem BankM.lt {w : World} {B h : Nat} {l : List SD} {s : BS} {N : Nat} {X : Nat → Prop} (H : BankM w B h l s N X) : ∀ k, X k → B ≤ k ∧ k < w.heap.size := by
  obtain ⟨m, R, sz, F, MS, h1, h2, h3, h4, h5, h6⟩ := H
  exact h4
theorem BankM.more {w : World} {B h : Nat} {l : List SD} {s : BS} {N N' : Nat} {X X' : Nat → Prop} (H : BankM w B h l s N X) (hN : N ≤ N') (hX : ∀ k, X k → X' k) (hX' : ∀ k, X' k → B ≤ k ∧ k < w.heap.size) : BankM w B h l s N' X' := by
  obtain ⟨m, R, sz, F, MS, h1, h2, h3, h4, h5, h6⟩ := H
  exact ⟨m, R, sz, F, MS, h1, h2.more hN hX, ⟨hX _ h3.1, hX _ h3.2.1, fun k e => hX _ (h3.2.2 k e)⟩, hX', Nat.le_trans h5 hN, h6⟩
/-- What a call on a bank leaves of all else. -/
structure Fr (w w' : World) (X : Nat → Prop) : Prop where
  os : w'.os = w.os
  tape : w'.tape = w.tape
  output : w'.output = w.output
  size : w.heap.size ≤ w'.heap.size
  block : ∀ k, k < w.heap.size → ¬ X k → w'.heap[k]? = w.heap[k]?
theorem Fr.ofUp {w w' : World} {X : Nat → Prop} (u : Up w w') : Fr w w' X := ⟨u.os, u.tape, u.output, u.size, fun k hk _ => u.block k hk⟩
theorem Fr.trans {w w1 w2 : World} {X X1 : Nat → Prop} (f : Fr w w1 X) (f2 : Fr w1 w2 X1) (hX : ∀ k, k < w.heap.size → X1 k → X k) : Fr w w2 X :=
  ⟨f2.os.trans f.os, f2.tape.trans f.tape, f2.output.trans f.output, Nat.le_trans f.size f2.size, fun k hk hn => (f2.block k (Nat.lt_of_lt_of_le hk f.size) (fun h => hn (hX k hk h))).trans (f.block k hk hn)⟩
theorem Fr.same {w w1 w2 : World} {X : Nat → Prop} (f : Fr w w1 X) (f2 : Fr w1 w2 X) : Fr w w2 X := f.trans f2 fun k _ h => h
theorem Fr.toUp {w0 w w' : World} {X : Nat → Prop} (f : Fr w w' X) (u : Up w0 w) (h : ∀ k, X k → w0.heap.size ≤ k) : Up w0 w' :=
  ⟨f.os.trans u.os, f.tape.trans u.tape, f.output.trans u.output, Nat.le_trans u.size f.size, fun k hk => (f.block k (Nat.lt_of_lt_of_le hk u.size) (fun hx => by have := h k hx; omega)).trans (u.block k hk)⟩
theorem XG.ge {X : Nat → Prop} {w w' : World} {B : Nat} (h : ∀ k, X k → B ≤ k ∧ k < w.heap.size) (hs : w.heap.size ≤ w'.heap.size) (hB : B ≤ w.heap.size) : ∀ k, XG X w w' k → B ≤ k ∧ k < w'.heap.size := fun k hk => by
  rcases hk with hk | hk
  · exact ⟨(h k hk).1, Nat.lt_of_lt_of_le (h k hk).2 hs⟩
  · exact ⟨by omega, hk.2⟩
/-- Two banks: their blocks apart. -/
theorem BankM.beside {w w' : World} {B h : Nat} {l : List SD} {s : BS} {N : Nat} {X Y : Nat → Prop} (H : BankM w B h l s N X) (f : Fr w w' Y) (hXY : ∀ k, X k → ¬ Y k) : BankM w' B h l s N X :=
  H.keep f.size fun k hk => f.block k (H.lt k hk).2 (hXY k hk)

end Go.Proofs.Ytpapcheliohacaa
