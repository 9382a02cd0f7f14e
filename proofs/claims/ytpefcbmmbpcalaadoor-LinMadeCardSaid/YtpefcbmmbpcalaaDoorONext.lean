/-
  order.Next.
-/
import Derived.Test.YtpefcbmmbpcalaaDoorNextP
import Derived.Maps.AppendAt
set_option linter.unusedVariables false
set_option linter.unusedSimpArgs false
namespace Go.Proofs.YtpefcbmmbpcalaaDoor
open Go.RowKit Go.Shelf
attribute [local go_sem] Oper.semAt_some

/-- What was found when 'pre' has come. -/
def pickL (l : List OpD) {s : Nat} (pre : List (Bit s)) : List Nat := (vals pre).filter (freeB l s)
theorem pickL_len (l : List OpD) {s : Nat} (pre : List (Bit s)) : (pickL l pre).length ≤ pre.length := by
  unfold pickL
  have := List.length_filter_le (freeB l s) (vals pre)
  rwa [vals_len] at this
theorem pickL_snoc (l : List OpD) {s : Nat} (pre : List (Bit s)) (x : Bit s) : pickL l (pre ++ [x]) = if freeB l s x.1 then pickL l pre ++ [x.1] else pickL l pre := by
  unfold pickL
  rw [vals_snoc, List.filter_append]
  by_cases h : freeB l s x.1 <;> simp [h]

theorem heap_not_row {W : World} {B : Nat} {cs : Array Value} {t e : TypeId} {fr : Nat × Nat} (h : W.heap[B]? = some (.cells cs t fr)) (hte : t ≠ e) {base size k : Nat} {v : Value} {xs : List Value} (hr : W.ownsRow base e size v k xs) : some B ≠ v.ownBlock := by
  rcases hr.2 with ⟨rfl, _⟩ | ⟨g, cap, cur, rfl, _, hgb, _⟩
  · simp [Value.ownBlock]
  · intro e'
    obtain rfl : B = g := by simpa [Value.ownBlock] using e'
    have := h.symm.trans hgb
    simp at this
    exact hte this.2.1

structure InvX (w : World) (l : List OpD) (A : Option Addr) (c s : Nat) (pre : List (Bit s)) (W : World) : Prop where
  L : Boxed W w.heap.size 22 (.slice A l.length c)
  F : ∃ v, Boxed W (w.heap.size + 1) 24 v ∧ W.ownsRow w.heap.size 3 1 v (pickL l pre).length (ncells (pickL l pre))
  S : Boxed W (w.heap.size + 1 + 1) 23 (.int .u64 s)
  U : Up w W
theorem invX_own (w : World) (l : List OpD) (A : Option Addr) (c s Z : Nat) (hZ : w.heap.size ≤ Z) : OwnFrom Z (InvX w l A c s) := fun p X Y row hs hg hr =>
  have hr2 : ∀ r, row = some r → ∃ o : Obj, X.heap[r]? = some o ∧ o.isCells = false := fun r e => (hr r e).2
  ⟨boxed_own _ _ (fun _ => _) p X Y row hs.L hg hr2, by
      obtain ⟨v, a, b, _⟩ := holdsRow_own w.heap.size (w.heap.size + 1) 24 3 1 (fun pre => (pickL l (s := s) pre).length) (fun pre => ncells (pickL l pre)) (fun _ _ => True) p X Y row (by obtain ⟨v, a, b⟩ := hs.F; exact ⟨v, a, b, trivial⟩) hg hr2
      exact ⟨v, a, b⟩,
    boxed_own _ _ (fun _ => _) p X Y row hs.S hg hr2, ownFrom_below (β := List (Bit s)) (Nat.le_refl _) hZ p X Y row hs.U hg hr⟩

set_option maxRecDepth 100000 in
set_option maxHeartbeats 2000000 in
theorem onext_any (l : List OpD) (A : Option Addr) (c d : Nat) (w : World) (hd : d < top64) (hL : l.length < 64) (hf : fineP l = true) (hr : OpRow w A l) (hT : TabT w) :
    Calls Tryd.prog 12 #[.slice A l.length c, .int .u64 d] w fun e w' => ∃ v, e = .returned v ∧ OwnN w' w.heap.size v (nextL l d) ∧ Up w w' := by
  have hT0 := hT.pos
  have hNE := next_eq (d := d) hf (show l.length ≤ 64 by omega)
  have hand := bits_andNot (firstN l.length) d (firstN_lt (by omega)) hd
  rw [show diffN (firstN l.length) d = leftN l.length d from rfl] at hand
  have hs := diffN_lt (firstN l.length) d
  rw [show diffN (firstN l.length) d = leftN l.length d from rfl] at hs
  have hb : ∀ j, hasB (leftN l.length d) j = true → j < l.length := fun j h => by
    rw [leftN_has (by omega), Bool.and_eq_true] at h
    exact of_decide_eq_true h.1
  have hfi := fun W => mfirst_any l.length W hL
  obtain ⟨ii, hii, hz0, hz1, hz2⟩ := iparts infoI
  generalize firstN l.length = f0 at *
  generalize leftN l.length d = s at *
  refine (callsIn_wide (n := 6)).1 ?_
  refine callsIn_of_wp_marks Tryd.func12 rfl trivial ?_ rfl
  simp only [Tryd.ntmps12, List.size_toArray, List.length_cons, List.length_nil, Nat.reduceAdd, Nat.reduceSub, Array.replicate_succ, Array.replicate_zero, List.push_toArray, List.append_toArray, List.nil_append, List.cons_append]
  gi_wp2_with (first
    | (refine ⟨trivial, ?_⟩; gi_at_call 27; refine (callsIn_wide.2 (hfi _)).mono ?_; rintro e w' ⟨rfl, rfl⟩)
    | (refine ⟨trivial, ?_⟩; gi_at_call 28; refine (callsIn_wide.2 (each_any _ _)).mono ?_; rintro e w' ⟨rfl, rfl⟩))
  have hU0 : Up w ((((w.alloc (.cells #[.slice A l.length c] 22)).alloc (.cells #[.slice none 0 0] 24)).alloc (.cells #[.int .u64 s] 23)).alloc (.cells #[.int .u64 s] 23)) := ((((Up.refl w).alloc _).alloc _).alloc _).alloc _
  have bL := (((Boxed.new w 22 (.slice A l.length c)).alloc (.cells #[.slice none 0 0] 24)).alloc (.cells #[.int .u64 s] 23)).alloc (.cells #[.int .u64 s] 23)
  have bF := ((Boxed.new (w.alloc (.cells #[.slice A l.length c] 22)) 24 (.slice none 0 0)).alloc (.cells #[.int .u64 s] 23)).alloc (.cells #[.int .u64 s] 23)
  have bS := (Boxed.new ((w.alloc (.cells #[.slice A l.length c] 22)).alloc (.cells #[.slice none 0 0] 24)) 23 (.int .u64 s)).alloc (.cells #[.int .u64 s] 23)
  have bB := Boxed.new (((w.alloc (.cells #[.slice A l.length c] 22)).alloc (.cells #[.slice none 0 0] 24)).alloc (.cells #[.int .u64 s] 23)) 23 (.int .u64 s)
  have hsz : ((((w.alloc (.cells #[.slice A l.length c] 22)).alloc (.cells #[.slice none 0 0] 24)).alloc (.cells #[.int .u64 s] 23)).alloc (.cells #[.int .u64 s] 23)).heap.size = w.heap.size + 4 := by simp
  simp only [World.size_alloc] at bF bS bB
  obtain ⟨W0, hW0⟩ : ∃ W0, (((w.alloc (.cells #[.slice A l.length c] 22)).alloc (.cells #[.slice none 0 0] 24)).alloc (.cells #[.int .u64 s] 23)).alloc (.cells #[.int .u64 s] 23) = W0 := ⟨_, rfl⟩
  rw [hW0] at hU0 bL bF bS bB hsz ⊢
  clear hW0
  refine wpIn_rangeFunc_ownG rfl (by omega) (gf := 38) (lb := #[.pointer (some ⟨w.heap.size + 1 + 1 + 1, 0, none⟩)]) rfl trivial (enters_of Tryd.func38 (by kernel_rfl) rfl)
    (each_stops 5 (by omega) (w.heap.size + 1 + 1 + 1) w.heap.size s W0 hs hT0 (by omega) bB.cell (hT.up hU0)) belowK_t (belowK_b (by omega)) (Below.refl _ _) (fun x => rfl)
    (InvX w l A c s) (fun _ _ _ => False) (invX_own w l A c s _ (by omega)) (fun _ _ _ _ _ hs _ _ => hs)
    ⟨bL, ⟨_, bF, World.ownsRow_nil _ _ _ _⟩, bS, hU0⟩
    (fun x => { tmps := #[.slice A l.length c, .int .u64 d, .pointer (some ⟨w.heap.size, 0, none⟩), undef, .slice none 0 0, .pointer (some ⟨w.heap.size + 1, 0, none⟩), .pointer (some ⟨w.heap.size + 1 + 1, 0, none⟩), .int .i64 x.1, .slice A l.length c, .int .i64 l.length, .int .u64 f0, .int .u64 d, .int .u64 s, .int .u64 s, .func (.func 38) #[] #[.pointer (some ⟨w.heap.size + 1 + 1 + 1, 0, none⟩)], .int .i64 x.1, undef, undef, undef, undef, undef, undef, undef, undef, undef], defers := [] }) ?assign ?body ?done ?stop
  case assign =>
    intro lp x W K hK
    dsimp only [encB]
    gi_wp2
    exact hK
  case body =>
    rintro lp pre x W hI hlt
    obtain ⟨vf, bf, rf⟩ := hI.F
    have hFR := free_any l A c s x.1 W hs (by omega) hb (hb _ x.2.2) (hr.up hI.U) (hT.up hI.U)
    have cl := hI.L.cell
    have cs := hI.S.cell
    have hpl := pickL_len l pre
    have hsn := pickL_snoc l pre x
    cases hfb : freeB l s x.1
    · rw [hfb] at hFR hsn
      gi_wp2_with (refine ⟨trivial, ?_⟩; gi_at_call 29; refine (CallsIn.inRound lp (callsIn_wide.2 hFR)).mono ?_; rintro e w2 ⟨rfl, hu2⟩)
      refine ⟨keepsFrom_up hu2, hu2.mono hI.U.size, boxed_up hI.L hu2, ⟨vf, boxed_up bf hu2, ?_⟩, boxed_up hI.S hu2, hI.U.trans hu2⟩
      rw [hsn]
      exact own_up4 rf hu2
    · rw [hfb] at hFR hsn
      have HFR := Lib.hid hFR
      clear hFR
      gi_wp2_with (first
        | (refine ⟨trivial, ?_⟩; gi_at_call 29; refine (CallsIn.inRound lp (callsIn_wide.2 HFR.out)).mono ?_; rintro e w2 ⟨rfl, hu2⟩
           have cf2 := (boxed_up bf hu2).cell
           have hs2 := hu2.size)
        | (gi_at_builtin; refine wpListIn_append_own _ rfl _ _ 24 rfl w.heap.size 3 ii (.int .i64 0) 1 8 Tryd.underlying24 hii hz0 hz1 hz2 rfl (by decide) _ _ _ rfl ((own_up4 rf hu2).alloc _) ⟨_, 0, none⟩ 1 1 [.int .i64 x.1] rfl rfl (cells_new w2 [.int .i64 x.1] 3) (by simp [Value.oneCell']) (by unfold maxLen; omega) (by omega) (by have := hI.U.size; simp; omega) ?_
           intro v' w1 hown' hgrow _
           obtain ⟨g', cap', rfl⟩ := ownsRow_succ hown'
           obtain ⟨hv1, hv2, hr2, hk2, hb2⟩ := (boxed_up bf hu2).appended (by decide) (own_up4 rf hu2) (by have := hI.U.size; omega) (by omega) hown' hgrow
           have hc1 := hv1.cell
           have hf1 := hv1.frozen))
      have hrow2 := own_up4 rf hu2
      have keep : ∀ (k : Nat) (cs : Array Value) (t : TypeId), W.heap[k]? = some (.cells cs t (0, 0)) → t ≠ 3 → k ≠ w.heap.size + 1 → (w1.setCell ⟨w.heap.size + 1, 0, none⟩ (.slice (some ⟨g', 0, none⟩) ((pickL l pre).length + 1) cap')).heap[k]? = W.heap[k]? := fun k cs t h hte hne => by
        have hk := (Array.getElem?_eq_some_iff.1 h).1
        have h2 := (hu2.block k hk).trans h
        exact (heap_setCell_other _ _ _ _ hne).trans ((hgrow.block k (by simp; omega) (heap_not_row h2 hte hrow2)).trans ((heap_alloc_old _ _ (by omega)).trans (hu2.block k hk)))
      have hbl : Below w.heap.size W _ := (hu2.mono hI.U.size).trans hb2
      refine ⟨(keepsFrom_up hu2).trans (hk2.from _), hbl, (keep _ _ _ hI.L (by decide) (by omega)).trans hI.L, ⟨_, hv2, ?_⟩, (keep _ _ _ hI.S (by decide) (by omega)).trans hI.S, Below.trans hI.U hbl⟩
      rw [hsn]
      simp only [if_true]
      rw [List.length_append, ncells_append]
      exact hr2
  case done =>
    rintro D xs W hD hS hI hK
    obtain ⟨v, bf, rf⟩ := hI.F
    have cf := bf.cell
    have hU := hI.U
    have hpk : pickL l xs = nextL l d := by
      unfold pickL
      rw [hS]
      exact hNE
    rw [hpk] at rf
    clear hI
    gi_wp2
    refine ⟨by simp, .inl ⟨_, _, rfl, run_takeDeferred hK, ?_⟩⟩
    exact ⟨v, (results_tmp (t := 4) rfl _ _ _).trans rfl, _, rfl, ownsRow_putObj rf _ hK rfl, Below.trans hU (belowK_b (w := w) (Nat.le_refl _) W D _ _ (by omega) hK rfl rfl)⟩
  case stop =>
    rintro D co pre W _ _ h _
    exact h.elim

end Go.Proofs.YtpefcbmmbpcalaaDoor
