/-
  hist.Of at the chapter's example.
-/
import Derived.Test.YtpefcbmmbpcalaaOfB
import Derived.Test.YtpefcbmmbpcalaaOnly
import Derived.RangeFuncBox
import Derived.Maps.OwnIn
import Derived.Maps.AppendAt
import Derived.Maps.Views
import Derived.DeepKeys4
set_option linter.unusedVariables false
set_option linter.unusedSimpArgs false
namespace Go.Proofs.Ytpefcbmmbpcalaa
open Go.RowKit Go.Shelf
attribute [local go_sem] Oper.semAt_some

/-- How an event reads: by its seven cells. -/
def lit1 : Value → DataW Unit
  | .int k n => .lit (.int k n)
  | _ => .nil
def evR : Value → Option (DataW Unit × List MemPlace)
  | .agg cs => some (.agg (cs.toList.map lit1), [])
  | _ => none
theorem lit1_inv {v : Value} {k : IntKind} {n : Int} (h : lit1 v = .lit (.int k n)) : v = .int k n := by
  cases v <;> simp [lit1] at h
  obtain ⟨rfl, rfl⟩ := h
  rfl
theorem evR_inv {v : Value} {a b c d e f g : Int} {ps : List MemPlace} (h : evR v = some (.agg [.lit (.int .i64 a), .lit (.int .i64 b), .lit (.int .i64 c), .lit (.int .i64 d), .lit (.int .i64 e), .lit (.int .i64 f), .lit (.int .i64 g)], ps)) :
    v = .agg #[.int .i64 a, .int .i64 b, .int .i64 c, .int .i64 d, .int .i64 e, .int .i64 f, .int .i64 g] := by
  cases v with
  | agg cs =>
    simp only [evR, Option.some.injEq, Prod.mk.injEq, DataW.agg.injEq] at h
    obtain ⟨h, _⟩ := h
    obtain ⟨l⟩ := cs
    simp only at h
    obtain ⟨x0, l, rfl, h0, h⟩ := List.map_eq_cons_iff.1 h
    obtain ⟨x1, l, rfl, h1, h⟩ := List.map_eq_cons_iff.1 h
    obtain ⟨x2, l, rfl, h2, h⟩ := List.map_eq_cons_iff.1 h
    obtain ⟨x3, l, rfl, h3, h⟩ := List.map_eq_cons_iff.1 h
    obtain ⟨x4, l, rfl, h4, h⟩ := List.map_eq_cons_iff.1 h
    obtain ⟨x5, l, rfl, h5, h⟩ := List.map_eq_cons_iff.1 h
    obtain ⟨x6, l, rfl, h6, h⟩ := List.map_eq_cons_iff.1 h
    obtain rfl := List.map_eq_nil_iff.1 h
    rw [lit1_inv h0, lit1_inv h1, lit1_inv h2, lit1_inv h3, lit1_inv h4, lit1_inv h5, lit1_inv h6]
  | _ => simp [evR] at h
theorem whichRow : (72 : TypeId) < Try.prog.types.size := of_decide_eq_true (by kernel_rfl)
theorem whichWide : (match Try.prog.underlying 72 with | some (.array _ _) | some (.struct _) => true | _ => false) = true := by rw [Try.underlying72]
theorem laidOutO : laidOutB Try.prog = true := by kernel_rfl
theorem whichLaw : Maps.Keyed Try.prog 72 := Maps.Keyed.of_law (deep_law_laid laidOutO (m := 2) (by omega) whichRow (by kernel_rfl) whichWide)
def kl0 : Lit := .string [0, 0, 0, 0, 0, 0, 0, 0, 0, 0, 0, 0, 0, 0, 0, 0]
theorem kl0_is : keyOf Try.prog 72 (.agg #[.int .i64 0, .int .i64 0]) = some kl0 := by kernel_rfl
theorem evZero (w : World) : (zeroValue 49).run Try.prog w = .ok (.agg #[.int .i64 0, .int .i64 0, .int .i64 0, .int .i64 0, .int .i64 0, .int .i64 0, .int .i64 0]) w := by kernel_rfl

/-- What lies in the slots when a round's body begins. -/
def slots (N pb g Bx : Nat) (i e : Value) : Array Value := #[.agg #[.slice none 0 0, .slice (some ⟨pb, 0, none⟩) 1 1, .slice none 0 0, .slice none 0 0], .slice (some ⟨g, 0, none⟩) 2 2, .int .i64 2, .pointer (some ⟨N, 0, none⟩), undef, .pointer (some ⟨N + 1, 0, none⟩), .slice none 0 0, .pointer (some ⟨N + 1 + 1, 0, none⟩), .pointer (some ⟨N + 1 + 1 + 1 + 1, 0, none⟩), undef, .pointer (some ⟨Bx, 0, none⟩), undef, undef, undef, undef, undef, undef, .map (some (N + 1 + 1 + 1)), .slice (some ⟨g, 0, none⟩) 2 2, .func (.func 38) #[] #[.pointer (some ⟨N + 1 + 1 + 1 + 1 + 1, 0, none⟩)], i, e, undef, undef, undef, undef, undef, undef, undef, undef, undef, undef, undef, undef, undef, undef, undef, undef, undef, undef, undef, undef, undef, undef, undef, undef, undef, undef, undef, undef, undef, undef, undef, undef, undef, undef, undef, undef, undef, undef, undef, undef, undef, undef, undef, undef, undef, undef, undef, undef, undef, undef, undef, undef, undef, undef, undef, undef, undef, undef, undef, undef, undef, undef, undef, undef, undef, undef, undef, undef, undef, undef, undef, undef, undef, undef, undef, undef, undef, undef, undef, undef, undef]
def evc (at' kind : Int) : Obj := .cells #[.int .i64 at', .int .i64 kind, .int .i64 0, .int .i64 0, .int .i64 0, .int .i64 0, .int .i64 0] 49
def scc (pb : Nat) : Obj := .cells #[.slice none 0 0, .slice (some ⟨pb, 0, none⟩) 1 1, .slice none 0 0, .slice none 0 0] 44
def evD : DataW Unit := .agg [.lit (.int .i64 5), .lit (.int .i64 2), .lit (.int .i64 0), .lit (.int .i64 0), .lit (.int .i64 0), .lit (.int .i64 0), .lit (.int .i64 0)]
def evZ : DataW Unit := .agg [.lit (.int .i64 0), .lit (.int .i64 0), .lit (.int .i64 0), .lit (.int .i64 0), .lit (.int .i64 0), .lit (.int .i64 0), .lit (.int .i64 0)]
def dM (pre : List Bool) : DataW Unit := if pre.contains true then .map [(kl0, evD)] else .map []
/-- What is found when 'pre' has come. -/
def fL : List Bool → List Bool → List OpD
  | _, [] => []
  | seen, x :: xs => (if x then [] else [⟨3, if seen.contains true then 5 else -1, true, 7, 0⟩]) ++ fL (seen ++ [x]) xs
theorem fL_snoc (seen pre : List Bool) (x : Bool) : fL seen (pre ++ [x]) = fL seen pre ++ (if x then [] else [⟨3, if (seen ++ pre).contains true then 5 else -1, true, 7, 0⟩]) := by
  induction pre generalizing seen with
  | nil => simp [fL]
  | cons y ys ih => simp only [List.cons_append, fL, ih, List.append_assoc]; simp
theorem fL_len (seen pre : List Bool) : (fL seen pre).length ≤ pre.length := by
  induction pre generalizing seen with
  | nil => simp [fL]
  | cons y ys ih =>
    have := ih (seen ++ [y])
    simp only [fL, List.length_append, List.length_cons]
    split <;> simp <;> omega
theorem put_a : (DataW.map [] : DataW Unit).put kl0 evD = .map [(kl0, evD)] := by kernel_rfl
theorem put_b : (DataW.map [(kl0, evD)] : DataW Unit).put kl0 evD = .map [(kl0, evD)] := by kernel_rfl
theorem at_a : (DataW.map [] : DataW Unit).atKey kl0 evZ = evZ := by kernel_rfl
theorem at_b : (DataW.map [(kl0, evD)] : DataW Unit).atKey kl0 evZ = evD := by kernel_rfl
theorem has_a : Maps.has (DataW.map [] : DataW Unit) kl0 = false := by kernel_rfl
theorem has_b : Maps.has (DataW.map [(kl0, evD)] : DataW Unit) kl0 = true := by kernel_rfl
theorem dM_true (pre : List Bool) : (dM pre).put kl0 evD = dM (pre ++ [true]) := by
  unfold dM
  have : (pre ++ [true]).contains true = true := by simp
  rw [this]
  cases pre.contains true
  · exact put_a
  · exact put_b
theorem dM_false (pre : List Bool) : dM (pre ++ [false]) = dM pre := by
  unfold dM
  have : (pre ++ [false]).contains true = pre.contains true := by simp
  rw [this]
theorem cells_own {β : Type} (B : Nat) (cs : Array Value) (t : TypeId) : Own (fun (_ : β) W => W.heap[B]? = some (.cells cs t (0, 0))) := fun s X Y row hs hg hrow =>
  (hg.block B (Array.getElem?_eq_some_iff.1 hs).1 (fun e' => by obtain ⟨o, ho, hc⟩ := hrow B e'.symm; rw [hs] at ho; cases ho; cases hc)).trans hs

theorem heap_not_row {W : World} {B : Nat} {cs : Array Value} {t e : TypeId} {fr : Nat × Nat} (h : W.heap[B]? = some (.cells cs t fr)) (hte : t ≠ e) {base size k : Nat} {v : Value} {xs : List Value} (hr : W.ownsRow base e size v k xs) : some B ≠ v.ownBlock := by
  rcases hr.2 with ⟨rfl, _⟩ | ⟨g, cap, cur, rfl, _, hgb, _⟩
  · simp [Value.ownBlock]
  · intro e'
    obtain rfl : B = g := by simpa [Value.ownBlock] using e'
    have := h.symm.trans hgb
    simp at this
    exact hte this.2.1
theorem own_map_up {W W' : World} {P : Program} {k : TypeId} {R : Value → Option (DataW Unit × List MemPlace)} {b n : Nat} {D : DataW Unit} (h : W.ownsMap P k R b n D) (u : Up W W') : W'.ownsMap P k R b n D := by
  obtain ⟨es, ck, hh, r⟩ := h
  exact ⟨es, ck, (u.block _ (Array.getElem?_eq_some_iff.1 hh).1).trans hh, r⟩
theorem boxed_up {W W' : World} {B : Nat} {t : TypeId} {v : Value} (h : Boxed W B t v) (u : Up W W') : Boxed W' B t v := (u.block _ h.lt).trans h
theorem keepsFrom_up {B : Nat} {W W' : World} (u : Up W W') : KeepsFrom B W W' := ⟨u.size, fun k o _ hk _ => (u.block k (Array.getElem?_eq_some_iff.1 hk).1).trans hk⟩

theorem ev_cells {w : World} {B : Nat} {a k : Int} (h : w.heap[B]? = some (evc a k)) :
    w.cell? ⟨B, 0, none⟩ = some (.int .i64 a) ∧ w.cell? ⟨B, 1, none⟩ = some (.int .i64 k) ∧ w.cell? ⟨B, 2, none⟩ = some (.int .i64 0) ∧ w.cell? ⟨B, 3, none⟩ = some (.int .i64 0) ∧ w.cell? ⟨B, 4, none⟩ = some (.int .i64 0) ∧ w.cell? ⟨B, 5, none⟩ = some (.int .i64 0) ∧ w.cell? ⟨B, 6, none⟩ = some (.int .i64 0) :=
  ⟨cell_of_row _ _ 0 _ _ _ h, cell_of_row _ _ 1 _ _ _ h, cell_of_row _ _ 2 _ _ _ h, cell_of_row _ _ 3 _ _ _ h, cell_of_row _ _ 4 _ _ _ h, cell_of_row _ _ 5 _ _ _ h, cell_of_row _ _ 6 _ _ _ h⟩
theorem sc_cells {w : World} {B pb : Nat} (h : w.heap[B]? = some (scc pb)) :
    w.cell? ⟨B, 0, none⟩ = some (.slice none 0 0) ∧ w.cell? ⟨B, 1, none⟩ = some (.slice (some ⟨pb, 0, none⟩) 1 1) ∧ w.cell? ⟨B, 2, none⟩ = some (.slice none 0 0) ∧ w.cell? ⟨B, 3, none⟩ = some (.slice none 0 0) :=
  ⟨cell_of_row _ _ 0 _ _ _ h, cell_of_row _ _ 1 _ _ _ h, cell_of_row _ _ 2 _ _ _ h, cell_of_row _ _ 3 _ _ _ h⟩

theorem map_not_row {W : World} {B : Nat} {P : Program} {kt : TypeId} {R : Value → Option (DataW Unit × List MemPlace)} {n0 : Nat} {D : DataW Unit} (h : W.ownsMap P kt R B n0 D) {base size k : Nat} {e : TypeId} {v : Value} {xs : List Value} (hr : W.ownsRow base e size v k xs) : v.ownBlock = none ∨ v.ownBlock ≠ some B := by
  obtain ⟨es, ck, hh, _⟩ := h
  rcases hr.2 with ⟨rfl, _⟩ | ⟨g, cap, cur, rfl, _, hgb, _⟩
  · exact .inl rfl
  · refine .inr (fun e' => ?_)
    obtain rfl : g = B := by simpa [Value.ownBlock] using e'
    rw [hh] at hgb
    cases hgb

/-- What holds between two rounds. -/
structure InvO (w : World) (pb g : Nat) (pre : List Bool) (W : World) : Prop where
  S : W.heap[w.heap.size]? = some (scc pb)
  O : Boxed W (w.heap.size + 1) 3 (.int .i64 2)
  F : ∃ v, Boxed W (w.heap.size + 1 + 1) 22 v ∧ W.ownsRow w.heap.size 24 5 v (fL [] pre).length (ocells (fL [] pre))
  M : W.ownsMap Try.prog 72 evR (w.heap.size + 1 + 1 + 1) pre.length (dM pre)
  MB : Boxed W (w.heap.size + 1 + 1 + 1 + 1) 67 (.map (some (w.heap.size + 1 + 1 + 1)))
  B : Boxed W (w.heap.size + 1 + 1 + 1 + 1 + 1) 50 (.slice (some ⟨g, 0, none⟩) 2 2)
  U : Up w W
theorem invO_own (w : World) (pb g Z : Nat) (hZ : w.heap.size + 6 ≤ Z) : OwnFrom Z (InvO w pb g) := fun s X Y row hs hg hr =>
  have hr2 : ∀ r, row = some r → ∃ o : Obj, X.heap[r]? = some o ∧ o.isCells = false := fun r e => (hr r e).2
  ⟨cells_own _ _ _ s X Y row hs.S hg hr2, boxed_own _ _ (fun _ => _) s X Y row hs.O hg hr2, by
      obtain ⟨v, a, b, _⟩ := holdsRow_own w.heap.size (w.heap.size + 1 + 1) 22 24 5 (fun pre => (fL [] pre).length) (fun pre => ocells (fL [] pre)) (fun _ _ => True) s X Y row (by obtain ⟨v, a, b⟩ := hs.F; exact ⟨v, a, b, trivial⟩) hg hr2
      exact ⟨v, a, b⟩,
    hs.M.kept hg (fun e => by have := (hr _ e.symm).1; omega), boxed_own _ _ (fun _ => _) s X Y row hs.MB hg hr2, boxed_own _ _ (fun _ => _) s X Y row hs.B hg hr2,
    ownFrom_below (β := List Bool) (Nat.le_refl _) (show w.heap.size ≤ Z by omega) s X Y row hs.U hg hr⟩

theorem invO_end {w W W6 w1 : World} {pb g Z n : Nat} {pre : List Bool} {vf v' : Value} {tmp : Obj} {ys : List Value} (hi : InvO w pb g pre W) (u6 : Up W W6) (rf : W.ownsRow w.heap.size 24 5 vf (fL [] pre).length (ocells (fL [] pre)))
    (hgrow : (W6.alloc tmp).grownBy w1 vf.ownBlock) (hv2 : Boxed (w1.setCell ⟨w.heap.size + 1 + 1, 0, none⟩ v') (w.heap.size + 1 + 1) 22 v')
    (hr2 : (w1.setCell ⟨w.heap.size + 1 + 1, 0, none⟩ v').ownsRow w.heap.size 24 5 v' n ys) (hn : n = (fL [] (pre ++ [false])).length) (hys : ys = ocells (fL [] (pre ++ [false])))
    (hk2 : KeepsOthers W6 (w1.setCell ⟨w.heap.size + 1 + 1, 0, none⟩ v')) (hb2 : Below w.heap.size W6 (w1.setCell ⟨w.heap.size + 1 + 1, 0, none⟩ v')) :
    KeepsFrom Z W (w1.setCell ⟨w.heap.size + 1 + 1, 0, none⟩ v') ∧ KeepB w.heap.size (w.heap.size + 1 + 1 + 1 + 1 + 1) W (w1.setCell ⟨w.heap.size + 1 + 1, 0, none⟩ v') ∧ InvO w pb g (pre ++ [false]) (w1.setCell ⟨w.heap.size + 1 + 1, 0, none⟩ v') := by
  have hs6 := u6.size
  have keep : ∀ (k : Nat) (cs : Array Value) (t : TypeId), W.heap[k]? = some (.cells cs t (0, 0)) → t ≠ 24 → k ≠ w.heap.size + 1 + 1 → (w1.setCell ⟨w.heap.size + 1 + 1, 0, none⟩ v').heap[k]? = W.heap[k]? := fun k cs t h hte hne => by
    have hk := (Array.getElem?_eq_some_iff.1 h).1
    exact (heap_setCell_other _ _ _ _ hne).trans ((hgrow.block k (by simp; omega) (heap_not_row h hte rf)).trans ((heap_alloc_old _ _ (by omega)).trans (u6.block k hk)))
  have eB := keep _ _ _ hi.B (by decide) (by omega)
  have hbl : Below w.heap.size W (w1.setCell ⟨w.heap.size + 1 + 1, 0, none⟩ v') := (u6.mono hi.U.size).trans hb2
  refine ⟨(keepsFrom_up u6).trans (hk2.from _), ⟨hbl, eB⟩, ?_⟩
  refine ⟨(keep _ _ _ hi.S (by decide) (by omega)).trans hi.S, (keep _ _ _ hi.O (by decide) (by omega)).trans hi.O, ⟨v', hv2, by rw [← hn, ← hys]; exact hr2⟩, ?_, (keep _ _ _ hi.MB (by decide) (by omega)).trans hi.MB, eB.trans hi.B, Below.trans hi.U hbl⟩
  rw [dM_false, List.length_append]
  have hne : some (w.heap.size + 1 + 1 + 1) ≠ vf.ownBlock := fun e => by
    rcases map_not_row hi.M rf with h | h
    · rw [h] at e; cases e
    · exact h e.symm
  exact ((((own_map_up hi.M u6).alloc tmp).kept hgrow hne).kept (grownBy_setCell' w1 (w.heap.size + 1 + 1) v') (by simp)).mono (by omega)

set_option maxRecDepth 100000 in
set_option maxHeartbeats 2000000 in
theorem of_one (pb qb g : Nat) (w : World) (hp : w.cell? ⟨pb, 0, none⟩ = some (.slice (some ⟨qb, 0, none⟩) 1 1))
    (h0 : w.cell? ⟨qb, 0, none⟩ = some (.int .i64 16)) (h1 : w.cell? ⟨qb, 1, none⟩ = some (.int .i64 2)) (h2 : w.cell? ⟨qb, 2, none⟩ = some (.int .i64 7)) (hE : EvRow w g) :
    Calls Try.prog 17 #[scagg pb, .slice (some ⟨g, 0, none⟩) 2 2, .int .i64 2] w fun e w' => ∃ v, e = .returned v ∧ OwnO w' w.heap.size v [⟨3, 5, true, 7, 0⟩] ∧ Up w w' := by
  have hmm := @run_makeMap Try.prog
  unfold scagg
  refine (callsIn_wide (n := 6)).1 ?_
  refine callsIn_of_wp_marks Try.func17 rfl trivial ?_ rfl
  simp only [Try.ntmps17, List.size_toArray, List.length_cons, List.length_nil, Nat.reduceAdd, Nat.reduceSub, Array.replicate_succ, Array.replicate_zero, List.push_toArray, List.append_toArray, List.nil_append, List.cons_append]
  gi_wp2_with (refine ⟨trivial, ?_⟩; gi_at_call 31; refine (callsIn_wide.2 (backward_any _ _ _ _)).mono ?_; rintro e w' ⟨rfl, rfl⟩)
  have hU0 : Up w ((((((w.alloc (scc pb)).alloc (.cells #[.int .i64 2] 3)).alloc (.cells #[.slice none 0 0] 22)).alloc (.map #[] 0)).alloc (.cells #[.map (some (w.heap.size + 1 + 1 + 1))] 67)).alloc (.cells #[.slice (some ⟨g, 0, none⟩) 2 2] 50)) := ((((((Up.refl w).alloc _).alloc _).alloc _).alloc _).alloc _).alloc _
  have bO := ((((Boxed.new (w.alloc (scc pb)) 3 (.int .i64 2)).alloc (.cells #[.slice none 0 0] 22)).alloc (.map #[] 0)).alloc (.cells #[.map (some (w.heap.size + 1 + 1 + 1))] 67)).alloc (.cells #[.slice (some ⟨g, 0, none⟩) 2 2] 50)
  have bF := (((Boxed.new ((w.alloc (scc pb)).alloc (.cells #[.int .i64 2] 3)) 22 (.slice none 0 0)).alloc (.map #[] 0)).alloc (.cells #[.map (some (w.heap.size + 1 + 1 + 1))] 67)).alloc (.cells #[.slice (some ⟨g, 0, none⟩) 2 2] 50)
  have hM := ((World.ownsMap_made (((w.alloc (scc pb)).alloc (.cells #[.int .i64 2] 3)).alloc (.cells #[.slice none 0 0] 22)) Try.prog 72 evR).alloc (.cells #[.map (some (w.heap.size + 1 + 1 + 1))] 67)).alloc (.cells #[.slice (some ⟨g, 0, none⟩) 2 2] 50)
  have bM := (Boxed.new ((((w.alloc (scc pb)).alloc (.cells #[.int .i64 2] 3)).alloc (.cells #[.slice none 0 0] 22)).alloc (.map #[] 0)) 67 (.map (some (w.heap.size + 1 + 1 + 1)))).alloc (.cells #[.slice (some ⟨g, 0, none⟩) 2 2] 50)
  have bB := Boxed.new (((((w.alloc (scc pb)).alloc (.cells #[.int .i64 2] 3)).alloc (.cells #[.slice none 0 0] 22)).alloc (.map #[] 0)).alloc (.cells #[.map (some (w.heap.size + 1 + 1 + 1))] 67)) 50 (.slice (some ⟨g, 0, none⟩) 2 2)
  have bS : ((((((w.alloc (scc pb)).alloc (.cells #[.int .i64 2] 3)).alloc (.cells #[.slice none 0 0] 22)).alloc (.map #[] 0)).alloc (.cells #[.map (some (w.heap.size + 1 + 1 + 1))] 67)).alloc (.cells #[.slice (some ⟨g, 0, none⟩) 2 2] 50)).heap[w.heap.size]? = some (scc pb) := by
    refine (((((Up.refl (w.alloc (scc pb))).alloc (.cells #[.int .i64 2] 3)).alloc (.cells #[.slice none 0 0] 22)).alloc (.map #[] 0)).alloc (.cells #[.map (some (w.heap.size + 1 + 1 + 1))] 67)).alloc (.cells #[.slice (some ⟨g, 0, none⟩) 2 2] 50) |>.block w.heap.size (by simp) |>.trans (heap_alloc_new w _)
  have hsz : ((((((w.alloc (scc pb)).alloc (.cells #[.int .i64 2] 3)).alloc (.cells #[.slice none 0 0] 22)).alloc (.map #[] 0)).alloc (.cells #[.map (some (w.heap.size + 1 + 1 + 1))] 67)).alloc (.cells #[.slice (some ⟨g, 0, none⟩) 2 2] 50)).heap.size = w.heap.size + 6 := by simp
  unfold scc at hU0 bO bF hM bM bB bS hsz
  simp only [World.size_alloc] at bO bF hM bM bB
  obtain ⟨W0, hW0⟩ : ∃ W0, (((((w.alloc (scc pb)).alloc (.cells #[.int .i64 2] 3)).alloc (.cells #[.slice none 0 0] 22)).alloc (.map #[] 0)).alloc (.cells #[.map (some (w.heap.size + 1 + 1 + 1))] 67)).alloc (.cells #[.slice (some ⟨g, 0, none⟩) 2 2] 50) = W0 := ⟨_, rfl⟩
  unfold scc at hW0
  rw [hW0] at hU0 bO bF hM bM bB bS hsz ⊢
  clear hW0
  refine wpIn_rangeFunc_ownH rfl (by omega) (gf := 38) (lb := #[.pointer (some ⟨w.heap.size + 1 + 1 + 1 + 1 + 1, 0, none⟩)]) rfl trivial (enters_of Try.func38 (by kernel_rfl) rfl)
    (backward1_stops 5 (by omega) (w.heap.size + 1 + 1 + 1 + 1 + 1) w.heap.size g W0 (Array.getElem?_eq_some_iff.1 hE).1 (by omega) (by omega) bB ((hU0.block g (Array.getElem?_eq_some_iff.1 hE).1).trans hE)) keepB_t (keepB_b (by omega) (by omega)) (Below.refl _ _) (fun x => by cases x <;> rfl)
    (InvO w pb g) (fun _ _ _ => False) (invO_own w pb g _ (by omega)) (fun _ _ _ _ _ hs _ _ => hs)
    ⟨bS, bO, ⟨_, bF, World.ownsRow_nil _ _ _ _⟩, hM, bM, bB, hU0⟩
    (fun x a' W => ∃ Bx, w.heap.size + 6 ≤ Bx ∧ W.heap[Bx]? = some (if x then evc 5 2 else evc 3 1) ∧ a' = { tmps := slots w.heap.size pb g Bx (.int .i64 (if x then 1 else 0)) (if x then evagg 5 2 else evagg 3 1), defers := [] })
    (fun x a' _ X Y row hs hg hr => by
      obtain ⟨Bx, h1, h2, h3⟩ := hs
      refine ⟨Bx, h1, ?_, h3⟩
      cases x
      · exact cells_own _ _ _ () X Y row h2 hg (fun r e => (hr r e).2)
      · exact cells_own _ _ _ () X Y row h2 hg (fun r e => (hr r e).2))
    ?assign ?body ?done ?stop
  case assign =>
    rintro l pre x W K hi hK
    have hUW := hi.U.size
    have hZ : w.heap.size + 6 ≤ W.heap.size := hi.B.lt
    have hi2 : ∀ o, InvO w pb g pre (W.alloc o) := fun o => (invO_own w pb g _ (Nat.le_refl _)).alloc o hi
    cases x
    · dsimp only [encE, evagg]
      gi_wp2
      exact hK _ _ ((KeepsOthers.alloc _ _).from _) ⟨(Below.refl _ W).alloc hUW _, heap_alloc_old _ _ hi.B.lt⟩ (hi2 _) ⟨W.heap.size, hZ, heap_alloc_new W _, rfl⟩
    · dsimp only [encE, evagg]
      gi_wp2
      exact hK _ _ ((KeepsOthers.alloc _ _).from _) ⟨(Below.refl _ W).alloc hUW _, heap_alloc_old _ _ hi.B.lt⟩ (hi2 _) ⟨W.heap.size, hZ, heap_alloc_new W _, rfl⟩
  case body =>
    rintro l pre x a' W hl _ hi ⟨Bx, hBx, bX, rfl⟩ hlt
    cases x
    · have hX0 : W.heap[Bx]? = some (evc 3 1) := bX
      have hBl : Bx < W.heap.size := (Array.getElem?_eq_some_iff.1 hX0).1
      have hNW := hi.U.size
      have HI := Lib.hid hi
      have HP := Lib.hid (And.intro hp (And.intro h0 (And.intro h1 h2)))
      have hUa : Up w (W.alloc (.cells #[.int .i64 0, .int .i64 0] 72)) := hi.U.alloc _
      have HUA := Lib.hid hUa
      obtain ⟨x0, x1, x2, x3, x4, x5, x6⟩ := ev_cells hX0
      obtain ⟨s0, s1, s2, s3⟩ := sc_cells hi.S
      have hMl := hi.B.lt
      have hSl : w.heap.size < W.heap.size := by omega
      clear hi hp h0 h1 h2 bX hUa
      simp only [slots, evagg]
      simp only [show (false = true) = False from by simp, if_false]
      obtain ⟨vf, bf, rf⟩ := HI.out.F
      obtain ⟨ii, hii, hz0, hz1, hz2⟩ := oparts infoOp
      have hfl : (fL [] pre).length ≤ 2 := Nat.le_trans (fL_len [] pre) (by omega)
      cases hct : pre.contains true
      · have hdm : dM pre = (.map []) := by unfold dM; rw [hct]; rfl
        have hat : (dM pre).atKey kl0 evZ = (.agg [.lit (.int .i64 0), .lit (.int .i64 0), .lit (.int .i64 0), .lit (.int .i64 0), .lit (.int .i64 0), .lit (.int .i64 0), .lit (.int .i64 0)]) := by rw [hdm]; exact at_a
        have hhas : Maps.has (dM pre) kl0 = false := by rw [hdm]; exact has_a
        gi_wp2_with (first
          | (refine ⟨trivial, ?_⟩; gi_at_call 32
             refine (CallsIn.inRound l (callsIn_wide.2 (called_one 3 1 pb qb (W.alloc (.cells #[.int .i64 0, .int .i64 0] 72)) ((HUA.out.cell (cell_lt HP.out.1)).trans HP.out.1) ((HUA.out.cell (cell_lt HP.out.2.1)).trans HP.out.2.1) ((HUA.out.cell (cell_lt HP.out.2.2.1)).trans HP.out.2.2.1) ((HUA.out.cell (cell_lt HP.out.2.2.2)).trans HP.out.2.2.2)))).mono ?_
             rintro e w2 ⟨rfl, hu2⟩
             have hX2 : w2.heap[Bx]? = some (evc 3 1) := (hu2.block Bx (by simp; omega)).trans ((heap_alloc_old _ _ hBl).trans hX0)
             have hBl2 : Bx < w2.heap.size := (Array.getElem?_eq_some_iff.1 hX2).1
             obtain ⟨z0, z1, z2, z3, z4, z5, z6⟩ := ev_cells hX2
             have o2 : w2.cell? ⟨w.heap.size + 1, 0, none⟩ = some (.int .i64 2) := (boxed_up (HI.out.O.alloc _) hu2).cell
             have m2 : w2.cell? ⟨w.heap.size + 1 + 1 + 1 + 1, 0, none⟩ = some (.map (some (w.heap.size + 1 + 1 + 1))) := (boxed_up (HI.out.MB.alloc _) hu2).cell
             have hol : w.heap.size + 1 < w2.heap.size := by omega
             have hml : w.heap.size + 1 + 1 + 1 + 1 < w2.heap.size := by omega
             have hwb := (((Up.trans hu2 (Up.refl w2)).alloc (.cells #[.int .i64 16, .int .i64 2, .int .i64 7] 37)).alloc (.cells #[.int .i64 3, .int .i64 (-1), .bool true, .int .i64 7, .int .i64 0] 24)).block W.heap.size (by simp) |>.trans (heap_alloc_new W _)
             have i0 : ((w2.alloc (.cells #[.int .i64 16, .int .i64 2, .int .i64 7] 37)).alloc (.cells #[.int .i64 3, .int .i64 (-1), .bool true, .int .i64 7, .int .i64 0] 24)).cell? ⟨W.heap.size, 0, none⟩ = some (.int .i64 0) := cell_of_row _ _ 0 _ _ _ hwb
             have i1 : ((w2.alloc (.cells #[.int .i64 16, .int .i64 2, .int .i64 7] 37)).alloc (.cells #[.int .i64 3, .int .i64 (-1), .bool true, .int .i64 7, .int .i64 0] 24)).cell? ⟨W.heap.size, 1, none⟩ = some (.int .i64 0) := cell_of_row _ _ 1 _ _ _ hwb
             have f4 : (((w2.alloc (.cells #[.int .i64 16, .int .i64 2, .int .i64 7] 37)).alloc (.cells #[.int .i64 3, .int .i64 (-1), .bool true, .int .i64 7, .int .i64 0] 24)).alloc (.cells #[.int .i64 0, .int .i64 0, .int .i64 0, .int .i64 0, .int .i64 0, .int .i64 0, .int .i64 0] 49)).cell? ⟨w.heap.size + 1 + 1, 0, none⟩ = some vf := ((((boxed_up (bf.alloc _) hu2).alloc _).alloc _).alloc _).cell
             have m4 : ((w2.alloc (.cells #[.int .i64 16, .int .i64 2, .int .i64 7] 37)).alloc (.cells #[.int .i64 3, .int .i64 (-1), .bool true, .int .i64 7, .int .i64 0] 24)).cell? ⟨w.heap.size + 1 + 1 + 1 + 1, 0, none⟩ = some (.map (some (w.heap.size + 1 + 1 + 1))) := (((boxed_up (HI.out.MB.alloc _) hu2).alloc _).alloc _).cell
             have HU2 := Lib.hid hu2
             clear hu2 x0 x1 x2 x3 x4 x5 x6 s0 s1 s2 s3)
          | (gi_at_lookup; refine wpListIn_lookup_own_ok _ rfl _ _ 67 rfl 72 49 whichLaw Try.underlying67 evR (evZero _) evZ [] rfl (w.heap.size + 1 + 1 + 1) pre.length _ rfl (((own_map_up (HI.out.M.alloc _) HU2.out).alloc _).alloc _) _ _ rfl kl0_is ?_; intro v ps hv; rw [hat] at hv; obtain rfl := evR_inv hv; rw [hhas])
          | (gi_at_builtin; refine wpListIn_append_own _ rfl _ _ 22 rfl w.heap.size 24 ii (.agg #[.int .i64 0, .int .i64 0, .bool false, .int .i64 0, .int .i64 0]) 5 40 Try.underlying22 hii hz0 hz1 hz2 rfl (by decide) _ _ _ rfl (((((own_up3 (rf.alloc _) HU2.out).alloc _).alloc _).alloc _).alloc _) ⟨_, 0, none⟩ 1 1 [.int .i64 3, .int .i64 (-1), .bool true, .int .i64 7, .int .i64 0] rfl rfl (by have h := cells_new (((w2.alloc (.cells #[.int .i64 16, .int .i64 2, .int .i64 7] 37)).alloc (.cells #[.int .i64 3, .int .i64 (-1), .bool true, .int .i64 7, .int .i64 0] 24)).alloc (.cells #[.int .i64 0, .int .i64 0, .int .i64 0, .int .i64 0, .int .i64 0, .int .i64 0, .int .i64 0] 49)) [.int .i64 3, .int .i64 (-1), .bool true, .int .i64 7, .int .i64 0] 24; rw [show (((w2.alloc (.cells #[.int .i64 16, .int .i64 2, .int .i64 7] 37)).alloc (.cells #[.int .i64 3, .int .i64 (-1), .bool true, .int .i64 7, .int .i64 0] 24)).alloc (.cells #[.int .i64 0, .int .i64 0, .int .i64 0, .int .i64 0, .int .i64 0, .int .i64 0, .int .i64 0] 49)).heap.size = w2.heap.size + 1 + 1 + 1 from by simp] at h; exact h) (by simp [Value.oneCell']) (by unfold maxLen; omega) (by omega) (by simp; omega) ?_
             intro v' w1 hown' hgrow _
             obtain ⟨g', cap', rfl⟩ := ownsRow_succ hown'
             have hv6 : Boxed (((w2.alloc (.cells #[.int .i64 16, .int .i64 2, .int .i64 7] 37)).alloc (.cells #[.int .i64 3, .int .i64 (-1), .bool true, .int .i64 7, .int .i64 0] 24)).alloc (.cells #[.int .i64 0, .int .i64 0, .int .i64 0, .int .i64 0, .int .i64 0, .int .i64 0, .int .i64 0] 49)) (w.heap.size + 1 + 1) 22 vf := (((boxed_up (bf.alloc _) HU2.out).alloc _).alloc _).alloc _
             obtain ⟨hv1, hv2, hr2, hk2, hb2⟩ := hv6.appended (by decide) ((((own_up3 (rf.alloc _) HU2.out).alloc _).alloc _).alloc _) (by simp; omega) (by omega) hown' hgrow
             have hc1 := hv1.cell
             have hf1 := hv1.frozen))
        refine invO_end HI.out (((((Up.refl W).alloc (.cells #[.int .i64 0, .int .i64 0] 72)).trans HU2.out).alloc _).alloc _ |>.alloc _) rf hgrow hv2 hr2 ?_ ?_ hk2 hb2
        · rw [fL_snoc]; simp
        · rw [fL_snoc, ocells_append, List.nil_append, hct]; rfl
      · have hdm : dM pre = (.map [(kl0, evD)]) := by unfold dM; rw [hct]; rfl
        have hat : (dM pre).atKey kl0 evZ = (.agg [.lit (.int .i64 5), .lit (.int .i64 2), .lit (.int .i64 0), .lit (.int .i64 0), .lit (.int .i64 0), .lit (.int .i64 0), .lit (.int .i64 0)]) := by rw [hdm]; exact at_b
        have hhas : Maps.has (dM pre) kl0 = true := by rw [hdm]; exact has_b
        gi_wp2_with (first
          | (refine ⟨trivial, ?_⟩; gi_at_call 32
             refine (CallsIn.inRound l (callsIn_wide.2 (called_one 3 1 pb qb (W.alloc (.cells #[.int .i64 0, .int .i64 0] 72)) ((HUA.out.cell (cell_lt HP.out.1)).trans HP.out.1) ((HUA.out.cell (cell_lt HP.out.2.1)).trans HP.out.2.1) ((HUA.out.cell (cell_lt HP.out.2.2.1)).trans HP.out.2.2.1) ((HUA.out.cell (cell_lt HP.out.2.2.2)).trans HP.out.2.2.2)))).mono ?_
             rintro e w2 ⟨rfl, hu2⟩
             have hX2 : w2.heap[Bx]? = some (evc 3 1) := (hu2.block Bx (by simp; omega)).trans ((heap_alloc_old _ _ hBl).trans hX0)
             have hBl2 : Bx < w2.heap.size := (Array.getElem?_eq_some_iff.1 hX2).1
             obtain ⟨z0, z1, z2, z3, z4, z5, z6⟩ := ev_cells hX2
             have o2 : w2.cell? ⟨w.heap.size + 1, 0, none⟩ = some (.int .i64 2) := (boxed_up (HI.out.O.alloc _) hu2).cell
             have m2 : w2.cell? ⟨w.heap.size + 1 + 1 + 1 + 1, 0, none⟩ = some (.map (some (w.heap.size + 1 + 1 + 1))) := (boxed_up (HI.out.MB.alloc _) hu2).cell
             have hol : w.heap.size + 1 < w2.heap.size := by omega
             have hml : w.heap.size + 1 + 1 + 1 + 1 < w2.heap.size := by omega
             have hwb := (((Up.trans hu2 (Up.refl w2)).alloc (.cells #[.int .i64 16, .int .i64 2, .int .i64 7] 37)).alloc (.cells #[.int .i64 3, .int .i64 (-1), .bool true, .int .i64 7, .int .i64 0] 24)).block W.heap.size (by simp) |>.trans (heap_alloc_new W _)
             have i0 : ((w2.alloc (.cells #[.int .i64 16, .int .i64 2, .int .i64 7] 37)).alloc (.cells #[.int .i64 3, .int .i64 (-1), .bool true, .int .i64 7, .int .i64 0] 24)).cell? ⟨W.heap.size, 0, none⟩ = some (.int .i64 0) := cell_of_row _ _ 0 _ _ _ hwb
             have i1 : ((w2.alloc (.cells #[.int .i64 16, .int .i64 2, .int .i64 7] 37)).alloc (.cells #[.int .i64 3, .int .i64 (-1), .bool true, .int .i64 7, .int .i64 0] 24)).cell? ⟨W.heap.size, 1, none⟩ = some (.int .i64 0) := cell_of_row _ _ 1 _ _ _ hwb
             have f4 : (((w2.alloc (.cells #[.int .i64 16, .int .i64 2, .int .i64 7] 37)).alloc (.cells #[.int .i64 3, .int .i64 5, .bool true, .int .i64 7, .int .i64 0] 24)).alloc (.cells #[.int .i64 5, .int .i64 2, .int .i64 0, .int .i64 0, .int .i64 0, .int .i64 0, .int .i64 0] 49)).cell? ⟨w.heap.size + 1 + 1, 0, none⟩ = some vf := ((((boxed_up (bf.alloc _) hu2).alloc _).alloc _).alloc _).cell
             have m4 : ((w2.alloc (.cells #[.int .i64 16, .int .i64 2, .int .i64 7] 37)).alloc (.cells #[.int .i64 3, .int .i64 (-1), .bool true, .int .i64 7, .int .i64 0] 24)).cell? ⟨w.heap.size + 1 + 1 + 1 + 1, 0, none⟩ = some (.map (some (w.heap.size + 1 + 1 + 1))) := (((boxed_up (HI.out.MB.alloc _) hu2).alloc _).alloc _).cell
             have HU2 := Lib.hid hu2
             clear hu2 x0 x1 x2 x3 x4 x5 x6 s0 s1 s2 s3)
          | (gi_at_lookup; refine wpListIn_lookup_own_ok _ rfl _ _ 67 rfl 72 49 whichLaw Try.underlying67 evR (evZero _) evZ [] rfl (w.heap.size + 1 + 1 + 1) pre.length _ rfl (((own_map_up (HI.out.M.alloc _) HU2.out).alloc _).alloc _) _ _ rfl kl0_is ?_; intro v ps hv; rw [hat] at hv; obtain rfl := evR_inv hv; rw [hhas])
          | (gi_at_builtin; refine wpListIn_append_own _ rfl _ _ 22 rfl w.heap.size 24 ii (.agg #[.int .i64 0, .int .i64 0, .bool false, .int .i64 0, .int .i64 0]) 5 40 Try.underlying22 hii hz0 hz1 hz2 rfl (by decide) _ _ _ rfl (((((own_up3 (rf.alloc _) HU2.out).alloc _).alloc _).alloc _).alloc _) ⟨_, 0, none⟩ 1 1 [.int .i64 3, .int .i64 (5), .bool true, .int .i64 7, .int .i64 0] rfl rfl (by have h := cells_new (((w2.alloc (.cells #[.int .i64 16, .int .i64 2, .int .i64 7] 37)).alloc (.cells #[.int .i64 3, .int .i64 (5), .bool true, .int .i64 7, .int .i64 0] 24)).alloc (.cells #[.int .i64 5, .int .i64 2, .int .i64 0, .int .i64 0, .int .i64 0, .int .i64 0, .int .i64 0] 49)) [.int .i64 3, .int .i64 (5), .bool true, .int .i64 7, .int .i64 0] 24; rw [show (((w2.alloc (.cells #[.int .i64 16, .int .i64 2, .int .i64 7] 37)).alloc (.cells #[.int .i64 3, .int .i64 (5), .bool true, .int .i64 7, .int .i64 0] 24)).alloc (.cells #[.int .i64 5, .int .i64 2, .int .i64 0, .int .i64 0, .int .i64 0, .int .i64 0, .int .i64 0] 49)).heap.size = w2.heap.size + 1 + 1 + 1 from by simp] at h; exact h) (by simp [Value.oneCell']) (by unfold maxLen; omega) (by omega) (by simp; omega) ?_
             intro v' w1 hown' hgrow _
             obtain ⟨g', cap', rfl⟩ := ownsRow_succ hown'
             have hv6 : Boxed (((w2.alloc (.cells #[.int .i64 16, .int .i64 2, .int .i64 7] 37)).alloc (.cells #[.int .i64 3, .int .i64 (5), .bool true, .int .i64 7, .int .i64 0] 24)).alloc (.cells #[.int .i64 5, .int .i64 2, .int .i64 0, .int .i64 0, .int .i64 0, .int .i64 0, .int .i64 0] 49)) (w.heap.size + 1 + 1) 22 vf := (((boxed_up (bf.alloc _) HU2.out).alloc _).alloc _).alloc _
             obtain ⟨hv1, hv2, hr2, hk2, hb2⟩ := hv6.appended (by decide) ((((own_up3 (rf.alloc _) HU2.out).alloc _).alloc _).alloc _) (by simp; omega) (by omega) hown' hgrow
             have hc1 := hv1.cell
             have hf1 := hv1.frozen))
        refine invO_end HI.out (((((Up.refl W).alloc (.cells #[.int .i64 0, .int .i64 0] 72)).trans HU2.out).alloc _).alloc _ |>.alloc _) rf hgrow hv2 hr2 ?_ ?_ hk2 hb2
        · rw [fL_snoc]; simp
        · rw [fL_snoc, ocells_append, List.nil_append, hct]; rfl
    · have hX0 : W.heap[Bx]? = some (evc 5 2) := bX
      have hBl : Bx < W.heap.size := (Array.getElem?_eq_some_iff.1 hX0).1
      have hNW := hi.U.size
      have HI := Lib.hid hi
      have HP := Lib.hid (And.intro hp (And.intro h0 (And.intro h1 h2)))
      have cMB := hi.MB.cell
      have hMl := hi.MB.lt
      obtain ⟨x0, x1, x2, x3, x4, x5, x6⟩ := ev_cells hX0
      clear hi hp h0 h1 h2 bX
      simp only [if_true, slots, evagg]
      gi_wp2_with (first
        | (gi_at_mapUpdate; refine wpListIn_mapUpdate_own _ rfl _ _ _ 67 rfl 72 49 whichLaw Try.underlying67 evR (w.heap.size + 1 + 1 + 1) pre.length _ rfl (HI.out.M.alloc _) (by unfold maxLen; omega) _ _ kl0 rfl rfl kl0_is evD [] rfl ?_; intro w1 hown1 hgrow1
           have hX1 : w1.heap[Bx]? = some (evc 5 2) := (hgrow1.block Bx (by simp; omega) (by simp; omega)).trans ((heap_alloc_old _ _ hBl).trans hX0)
           have hS1 : w1.heap[w.heap.size]? = some (scc pb) := (hgrow1.block w.heap.size (by simp; omega) (by simp; omega)).trans ((heap_alloc_old _ _ (by omega)).trans HI.out.S)
           have hU1 : Up w w1 := Below.grown ((HI.out.U.alloc _)) hgrow1 (by simp; omega) (fun k e => by cases e; omega)
           have HG := Lib.hid hgrow1
           have HM1 := Lib.hid hown1
           have HU1 := Lib.hid hU1
           obtain ⟨y0, y1, y2, y3, y4, y5, y6⟩ := ev_cells hX1
           obtain ⟨s0, s1, s2, s3⟩ := sc_cells hS1
           clear hgrow1 hown1 hU1 x0 x1 x2 x3 x4 x5 x6)
        | (refine ⟨trivial, ?_⟩; gi_at_call 32
           refine (CallsIn.inRound l (callsIn_wide.2 (called_one 5 2 pb qb w1 ((HU1.out.cell (cell_lt HP.out.1)).trans HP.out.1) ((HU1.out.cell (cell_lt HP.out.2.1)).trans HP.out.2.1) ((HU1.out.cell (cell_lt HP.out.2.2.1)).trans HP.out.2.2.1) ((HU1.out.cell (cell_lt HP.out.2.2.2)).trans HP.out.2.2.2)))).mono ?_
           rintro e w2 ⟨rfl, hu2⟩
           have hX2 : w2.heap[Bx]? = some (evc 5 2) := (hu2.block Bx (Array.getElem?_eq_some_iff.1 hX1).1).trans hX1
           have hBl2 : Bx < w2.heap.size := (Array.getElem?_eq_some_iff.1 hX2).1
           obtain ⟨z0, z1, z2, z3, z4, z5, z6⟩ := ev_cells hX2
           have HU2 := Lib.hid hu2
           clear hu2 y0 y1 y2 y3 y4 y5 y6 s0 s1 s2 s3))
      have hkeep : ∀ k, k < W.heap.size → k ≠ w.heap.size + 1 + 1 + 1 → (w2.alloc (.cells #[.int .i64 16, .int .i64 2, .int .i64 7] 37)).heap[k]? = W.heap[k]? := fun k hk hne =>
        (heap_alloc_old w2 _ (by have := HU2.out.size; have := HG.out.size; simp at this; omega)).trans ((HU2.out.block k (by have := HG.out.size; simp at this; omega)).trans ((HG.out.block k (by simp; omega) (fun e => hne (by cases e; rfl))).trans (heap_alloc_old _ _ hk)))
      have hbl : Below w.heap.size W (w2.alloc (.cells #[.int .i64 16, .int .i64 2, .int .i64 7] 37)) := by
        have e1 : Below w.heap.size W w1 := Below.grown ((Below.refl _ W).alloc hNW _) HG.out (by simp; omega) (fun k e => by cases e; omega)
        have hs1 := HU1.out.size
        exact (e1.trans (HU2.out.mono hs1)).alloc (by have := HU2.out.size; omega) _
      refine ⟨(((KeepsOthers.alloc W _).from _).trans (KeepsFrom.of_grownBy HG.out (fun j e => by cases e; omega))).trans ((keepsFrom_up HU2.out).trans ((KeepsOthers.alloc _ _).from _)), ⟨hbl, hkeep _ HI.out.B.lt (by omega)⟩, ?_⟩
      obtain ⟨vf, bf, rf⟩ := HI.out.F
      have hfl : fL [] (pre ++ [true]) = fL [] pre := by rw [fL_snoc]; simp
      refine ⟨(hkeep _ (Array.getElem?_eq_some_iff.1 HI.out.S).1 (by omega)).trans HI.out.S, (hkeep _ HI.out.O.lt (by omega)).trans HI.out.O, ⟨vf, (hkeep _ bf.lt (by omega)).trans bf, ?_⟩, ?_, (hkeep _ HI.out.MB.lt (by omega)).trans HI.out.MB, (hkeep _ HI.out.B.lt (by omega)).trans HI.out.B, Below.trans HI.out.U hbl⟩
      · rw [hfl]
        exact (own_up3 ((rf.alloc (.cells #[.int .i64 0, .int .i64 0] 72)).kept HG.out (map_not_row (HI.out.M.alloc (.cells #[.int .i64 0, .int .i64 0] 72)) (rf.alloc (.cells #[.int .i64 0, .int .i64 0] 72)))) HU2.out).alloc _
      · rw [← dM_true, List.length_append]
        exact (own_map_up HM1.out HU2.out).alloc _
  case done =>
    rintro D ys W hD rfl hi hK
    obtain ⟨v, bf, rf⟩ := hi.F
    have cf := bf.cell
    have hb := hi.U
    have rf' : W.ownsRow w.heap.size 24 5 v 1 (ocells [⟨3, 5, true, 7, 0⟩]) := rf
    obtain ⟨g', cap', rfl⟩ := ownsRow_succ rf'
    clear hi rf
    gi_wp2_with (refine ⟨trivial, ?_⟩; gi_at_call 33; refine (callsIn_wide.2 (reverse_one _ _ _)).mono ?_; rintro e w' ⟨⟨_, rfl⟩, rfl⟩)
    refine ⟨by simp, .inl ⟨_, _, rfl, run_takeDeferred hK, ?_⟩⟩
    refine ⟨.slice (some ⟨g', 0, none⟩) 1 cap', (results_tmp (t := 6) rfl _ _ _).trans rfl, _, rfl, ownsRow_putObj rf' _ hK rfl, Below.trans hb (belowK_b (w := w) (Nat.le_refl _) W D _ _ (by omega) hK rfl rfl)⟩
  case stop =>
    rintro D c pre W _ _ h _
    exact h.elim

end Go.Proofs.Ytpefcbmmbpcalaa
