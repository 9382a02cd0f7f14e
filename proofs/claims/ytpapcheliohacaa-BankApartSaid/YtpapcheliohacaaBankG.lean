/-
  Stores into a bank's block and map; New, Value, End of a bank.
-/
import Derived.Test.YtpapcheliohacaaBankF
import Derived.Test.YtpapcheliohacaaBankV
set_option linter.unusedVariables false
set_option linter.unusedSimpArgs false
namespace Go.Proofs.Ytpapcheliohacaa
open Go.RowKit

def st2 (w : World) (h o : Nat) (a b : Value) : World := (w.setCell ⟨h, o, none⟩ a).setCell ⟨h, o + 1, none⟩ b
theorem st2_other (w : World) (h o : Nat) (a b : Value) : ∀ k, k ≠ h → (st2 w h o a b).heap[k]? = w.heap[k]? := fun k hk =>
  (Below.heap_setCell (w.setCell ⟨h, o, none⟩ a) ⟨h, o + 1, none⟩ b k hk).trans (Below.heap_setCell w ⟨h, o, none⟩ a k hk)
theorem st2_size (w : World) (h o : Nat) (a b : Value) : (st2 w h o a b).heap.size = w.heap.size := by unfold st2; simp
theorem st2_fr (w : World) (h o : Nat) (a b : Value) (X : Nat → Prop) (hX : X h) : Fr w (st2 w h o a b) X := ⟨rfl, rfl, rfl, by rw [st2_size]; exact Nat.le_refl _, fun k _ hn => st2_other w h o a b k (fun e => hn (by rw [e]; exact hX))⟩
theorem BankB.setBy {w : World} {h : Nat} {R : Value} {many : Int} {m : Nat} {by' : Nat → Bool × Int} (H : BankB w h R many m by') (t : Nat) (ht : t < 8) (p : Bool × Int) :
    BankB (st2 w h (3 + t * 2) (.bool p.1) (.int .i64 p.2)) h R many m (fun i => if i = t then p else by' i) := by
  unfold st2
  have ho : ∀ j, j ≠ 3 + t * 2 → j ≠ 3 + t * 2 + 1 → ((w.setCell ⟨h, 3 + t * 2, none⟩ (.bool p.1)).setCell ⟨h, 3 + t * 2 + 1, none⟩ (.int .i64 p.2)).cell? ⟨h, j, none⟩ = w.cell? ⟨h, j, none⟩ := fun j h1 h2 =>
    (World.cell?_setCell_other _ _ _ _ (by simp <;> omega)).trans (World.cell?_setCell_other _ _ _ _ (by simp <;> omega))
  refine ⟨(ho 0 (by omega) (by omega)).trans H.k0, (ho 1 (by omega) (by omega)).trans H.k1, (ho 2 (by omega) (by omega)).trans H.k2, fun i hi => ?_, fun i hi => ?_, fun j => by simpa [go_sem] using H.fz j⟩
  · by_cases e : i = t
    · subst e
      rw [if_pos rfl]
      exact (World.cell?_setCell_other _ _ _ _ (by simp <;> omega)).trans (World.cell?_setCell_same _ _ _ (H.on i hi))
    · rw [if_neg e]
      exact (ho _ (by omega) (by omega)).trans (H.on i hi)
  · by_cases e : i = t
    · subst e
      rw [if_pos rfl]
      exact World.cell?_setCell_same _ _ _ ((World.cell?_setCell_other _ _ _ _ (by simp <;> omega)).trans (H.at' i hi))
    · rw [if_neg e]
      exact (ho _ (by omega) (by omega)).trans (H.at' i hi)
theorem BankO.setBy {w : World} {B h m : Nat} {R : Value} {many : Int} {rs : List (Int × SD)} {by' : Nat → Bool × Int} {sz : Nat} {F : Int → Option Nat} (H : BankO w B h m R many rs by' sz F) (t : Nat) (ht : t < 8) (p : Bool × Int) :
    BankO (st2 w h (3 + t * 2) (.bool p.1) (.int .i64 p.2)) B h m R many rs (fun i => if i = t then p else by' i) sz F :=
  ⟨H.blk.setBy t ht p, own_same H.row fun k e => st2_other _ _ _ _ _ k (fun e2 => H.rh (by rw [e, e2])), H.map.up (st2_other _ _ _ _ _ m (fun e => H.hm e.symm)), H.hm, H.rh, H.rm, H.geh, H.gem⟩
theorem Cells.st2 {w : World} {u : List (Int × CS)} {N B h m : Nat} {R : Value} {F : Int → Option Nat} {MS : Int → Nat → Value} {X : Nat → Prop} (H : Cells w u N B h m R F MS X) (o : Nat) (a b : Value) : Cells (st2 w h o a b) u N B h m R F MS X :=
  H.keep (by rw [st2_size]; exact Nat.le_refl _) fun q g hq k hk => st2_other _ _ _ _ _ k (H.ft q g hq k hk).2.1
theorem BankO.store {w : World} {B h m : Nat} {R : Value} {many : Int} {rs : List (Int × SD)} {by' : Nat → Bool × Int} {sz : Nat} {F : Int → Option Nat} (H : BankO w B h m R many rs by' sz F) (hn : sz < maxLen) {q : Int} (hq : Wf q) (g : Nat) :
    ∃ W', (Instr.mapUpdate 80 (.map (some m)) (.int .i64 q) (.pointer (some ⟨g, 0, none⟩))).run Try.prog w = .ok () W' ∧ BankO W' B h m R many rs by' (sz + 1) (fun x => if x = q then some g else F x) ∧ w.grownBy W' (some m) := by
  obtain ⟨W', h1, h2, h3⟩ := H.map.store hn hq g
  have hk : ∀ k, k < w.heap.size → k ≠ m → W'.heap[k]? = w.heap[k]? := fun k hk hne => h3.block k hk (fun e => hne (by injection e))
  exact ⟨W', h1, ⟨H.blk.same (hk h H.blk.lt H.hm), own_same H.row (fun k e => hk k (H.row.lt k e).2 (fun e2 => H.rm (by rw [e, e2]))), h2, H.hm, H.rh, H.rm, H.geh, H.gem⟩, h3⟩
theorem grown_fr {w w' : World} {m : Nat} {X : Nat → Prop} (h : w.grownBy w' (some m)) (hX : X m) : Fr w w' X := ⟨h.os, h.tape, h.output, h.size, fun k hk hn => h.block k hk (fun e => hn (by injection e with e; rw [e]; exact hX))⟩
theorem Cells.grown {w w' : World} {u : List (Int × CS)} {N B h m : Nat} {R : Value} {F : Int → Option Nat} {MS : Int → Nat → Value} {X : Nat → Prop} (H : Cells w u N B h m R F MS X) (hg : w.grownBy w' (some m)) : Cells w' u N B h m R F MS X :=
  H.keep hg.size fun q g hq k hk => hg.block k (H.lt hq hk) (fun e => by injection e with e; exact (H.ft q g hq k hk).2.2.1 e)

/-- A new bank. -/
def NewM (l : List SD) (w : World) (e : Ending) (w' : World) : Prop :=
  if (countP l).2 ≠ 0 then e = .returned (.tuple #[.pointer none, .int .i64 (countP l).2]) ∧ Up w w'
  else ∃ h X, e = .returned (.tuple #[.pointer (some ⟨h, 0, none⟩), .int .i64 0]) ∧ BankM w' w.heap.size h l bs0 0 X ∧ Up w w'
theorem fit_of {l : List SD} (hl : l.length ≤ 1000) (h : (countP l).2 = 0) : Fit l ∧ (countP l).1 = cntK l l.length := by
  unfold countP at h ⊢
  split at h
  · rename_i ha
    split at h
    · cases h
    · rename_i hc
      rw [if_pos ha, if_neg hc]
      exact ⟨⟨ha, by omega, hl⟩, rfl⟩
  · cases h
theorem newM_any (l : List SD) (A : Option Addr) (c : Nat) (w : World) (hl : l.length ≤ 1000) (hr : StripRow w A l) :
    Calls Try.prog 19 #[.slice A l.length c] w (NewM l w) := by
  refine (newB_any l A c w hl hr).mono fun e w' hp => ?_
  unfold NewPost at hp
  unfold NewM
  by_cases h0 : (countP l).2 ≠ 0
  · rw [if_pos h0] at hp ⊢
    exact hp
  · rw [if_neg h0] at hp ⊢
    obtain ⟨hf, h1⟩ := fit_of hl (by omega)
    obtain ⟨h, m, R, he, hb, hu⟩ := hp
    rw [h1] at hb
    refine ⟨h, fun k => k = h ∨ k = m ∨ R.ownBlock = some k, he, ⟨m, R, 0, fun _ => none, fun _ _ => .slice none 0 0, hb, ⟨fun q => rfl, fun q g c hq => (by cases hq), fun q g hq => (by cases hq), fun q q' g g' _ hq => (by cases hq), fun q g hq => (by cases hq)⟩, ⟨.inl rfl, .inr (.inl rfl), fun k e => .inr (.inr e)⟩, fun k hk => ?_, Nat.le_refl _, bs0_good⟩, hu⟩
    rcases hk with rfl | rfl | e
    · exact ⟨hb.geh, hb.blk.lt⟩
    · exact ⟨hb.gem, hb.map.isLt⟩
    · exact hb.row.lt k e

theorem valueM_any (l : List SD) (B h N : Nat) (s : BS) (X : Nat → Prop) (n : Int) (w : World) (hn : Wf n) (H : BankM w B h l s N X) :
    Calls Try.prog 26 #[.pointer (some ⟨h, 0, none⟩), .int .i64 n] w fun e w' => e = .returned (.int .i64 (s.value n)) ∧ w' = w := by
  obtain ⟨m, R, sz, F, MS, h1, h2, h3, h4, h5, h6⟩ := H
  refine bvalue_any h R _ m sz s.by' F n (s.value n) w hn h1.blk h1.map ?_
  have hd := h2.dom n
  unfold BS.value
  cases hF : F n with
  | none =>
    rw [hF] at hd
    cases hg : getU s.u n with
    | some c => rw [hg] at hd; cases hd
    | none => exact value_nil w
  | some g =>
    obtain ⟨c, hc⟩ := h2.get hF
    rw [hc]
    exact value_any g g c (MS n) w (h2.cell n g c hF hc).1
theorem busyM_any (l : List SD) (B h N : Nat) (s : BS) (X : Nat → Prop) (t : Int) (w : World) (ht0 : -9223372036854775808 ≤ t) (ht1 : t ≤ 9223372036854775807) (H : BankM w B h l s N X) :
    Calls Try.prog 24 #[.pointer (some ⟨h, 0, none⟩), .int .i64 t] w fun e w' => e = .returned (.tuple #[.int .i64 (s.busy t).1, .bool (s.busy t).2]) ∧ Up w w' := by
  obtain ⟨m, R, sz, F, MS, h1, h2, h3, h4, h5, h6⟩ := H
  exact bbusy_any h R _ m s t w ht0 ht1 h1.blk

end Go.Proofs.Ytpapcheliohacaa
