/-
  order.free.
-/
import Derived.Test.YtpefcbmmbpcalaaDoorEach
import Derived.Test.YtpefcbmmbpcalaaDoorStillR
import Derived.Test.YtpefcbmmbpcalaaDoorAhd
import Derived.RangeFuncBox
set_option linter.unusedVariables false
set_option linter.unusedSimpArgs false
namespace Go.Proofs.YtpefcbmmbpcalaaDoor
open Go.RowKit Go.Shelf
attribute [local go_sem] Oper.semAt_some

def okJ (l : List OpD) (i j : Nat) : Bool := j == i || !aheadB (l.getD j op0) (l.getD i op0)
def freeB (l : List OpD) (left i : Nat) : Bool := (bitsL left).all (okJ l i)
theorem boxed_up {W W' : World} {B : Nat} {t : TypeId} {v : Value} (h : Boxed W B t v) (u : Up W W') : Boxed W' B t v := (u.block _ h.lt).trans h
theorem keepsFrom_up {B : Nat} {W W' : World} (u : Up W W') : KeepsFrom B W W' := ⟨u.size, fun k o _ hk _ => (u.block k (Array.getElem?_eq_some_iff.1 hk).1).trans hk⟩

/-- What holds between two rounds of free. -/
structure InvF (w : World) (l : List OpD) (A : Option Addr) (c i s : Nat) (pre : List (Bit s)) (W : World) : Prop where
  L : Boxed W w.heap.size 22 (.slice A l.length c)
  I : Boxed W (w.heap.size + 1) 3 (.int .i64 i)
  R : Boxed W (w.heap.size + 1 + 1) 4 (.bool false)
  U : Up w W
  P : ∀ j ∈ vals pre, okJ l i j = true
structure ExF (w : World) (l : List OpD) (i s : Nat) (co : Code) (pre : List (Bit s)) (W : World) : Prop where
  co : co = .ret
  R : Boxed W (w.heap.size + 1 + 1) 4 (.bool false)
  U : Up w W
  P : ∃ j ∈ vals pre, okJ l i j = false
theorem invF_own (w : World) (l : List OpD) (A : Option Addr) (c i s Z : Nat) (hZ : w.heap.size ≤ Z) : OwnFrom Z (InvF w l A c i s) := fun p X Y row hs hg hr =>
  ⟨boxed_own _ _ (fun _ => _) p X Y row hs.L hg (fun r e => (hr r e).2), boxed_own _ _ (fun _ => _) p X Y row hs.I hg (fun r e => (hr r e).2), boxed_own _ _ (fun _ => _) p X Y row hs.R hg (fun r e => (hr r e).2),
    ownFrom_below (β := List (Bit s)) (Nat.le_refl _) hZ p X Y row hs.U hg hr, hs.P⟩
theorem exF_own (w : World) (l : List OpD) (i s Z : Nat) (hZ : w.heap.size ≤ Z) (co : Code) : OwnFrom Z (ExF w l i s co) := fun p X Y row hs hg hr =>
  ⟨hs.co, boxed_own _ _ (fun _ => _) p X Y row hs.R hg (fun r e => (hr r e).2), ownFrom_below (β := List (Bit s)) (Nat.le_refl _) hZ p X Y row hs.U hg hr, hs.P⟩

set_option maxRecDepth 100000 in
set_option maxHeartbeats 2000000 in
theorem free_any (l : List OpD) (A : Option Addr) (c s i : Nat) (w : World) (hs : s < top64) (hL : l.length ≤ 64) (hb : ∀ j, hasB s j = true → j < l.length) (hi : i < l.length) (hr : OpRow w A l) (hT : TabT w) :
    Calls Tryd.prog 29 #[.slice A l.length c, .int .u64 s, .int .i64 i] w fun e w' => e = .returned (.bool (freeB l s i)) ∧ Up w w' := by
  have hT0 := hT.pos
  refine (callsIn_wide (n := 6)).1 ?_
  refine callsIn_of_wp_marks Tryd.func29 rfl trivial ?_ rfl
  simp only [Tryd.ntmps29, List.size_toArray, List.length_cons, List.length_nil, Nat.reduceAdd, Nat.reduceSub, Array.replicate_succ, Array.replicate_zero, List.push_toArray, List.append_toArray, List.nil_append, List.cons_append]
  gi_wp2_with (refine ⟨trivial, ?_⟩; gi_at_call 28; refine (callsIn_wide.2 (each_any _ _)).mono ?_; rintro e w' ⟨rfl, rfl⟩)
  have hU0 : Up w ((((w.alloc (.cells #[.slice A l.length c] 22)).alloc (.cells #[.int .i64 i] 3)).alloc (.cells #[.bool false] 4)).alloc (.cells #[.int .u64 s] 23)) := ((((Up.refl w).alloc _).alloc _).alloc _).alloc _
  have bL := (((Boxed.new w 22 (.slice A l.length c)).alloc (.cells #[.int .i64 i] 3)).alloc (.cells #[.bool false] 4)).alloc (.cells #[.int .u64 s] 23)
  have bI := ((Boxed.new (w.alloc (.cells #[.slice A l.length c] 22)) 3 (.int .i64 i)).alloc (.cells #[.bool false] 4)).alloc (.cells #[.int .u64 s] 23)
  have bR := (Boxed.new ((w.alloc (.cells #[.slice A l.length c] 22)).alloc (.cells #[.int .i64 i] 3)) 4 (.bool false)).alloc (.cells #[.int .u64 s] 23)
  have bS := Boxed.new (((w.alloc (.cells #[.slice A l.length c] 22)).alloc (.cells #[.int .i64 i] 3)).alloc (.cells #[.bool false] 4)) 23 (.int .u64 s)
  have hsz : ((((w.alloc (.cells #[.slice A l.length c] 22)).alloc (.cells #[.int .i64 i] 3)).alloc (.cells #[.bool false] 4)).alloc (.cells #[.int .u64 s] 23)).heap.size = w.heap.size + 4 := by simp
  simp only [World.size_alloc] at bI bR bS
  obtain ⟨W0, hW0⟩ : ∃ W0, (((w.alloc (.cells #[.slice A l.length c] 22)).alloc (.cells #[.int .i64 i] 3)).alloc (.cells #[.bool false] 4)).alloc (.cells #[.int .u64 s] 23) = W0 := ⟨_, rfl⟩
  rw [hW0] at hU0 bL bI bR bS hsz ⊢
  clear hW0
  refine wpIn_rangeFunc_ownG rfl (by omega) (gf := 38) (lb := #[.pointer (some ⟨w.heap.size + 1 + 1 + 1, 0, none⟩)]) rfl trivial (enters_of Tryd.func38 (by kernel_rfl) rfl)
    (each_stops 5 (by omega) (w.heap.size + 1 + 1 + 1) w.heap.size s W0 hs hT0 (by omega) bS.cell (hT.up hU0)) belowK_t (belowK_b (by omega)) (Below.refl _ _) (fun x => rfl)
    (InvF w l A c i s) (ExF w l i s) (invF_own w l A c i s _ (by omega)) (fun co => exF_own w l i s _ (by omega) co)
    ⟨bL, bI, bR, hU0, fun j hj => by cases hj⟩
    (fun x => { tmps := #[.slice A l.length c, .int .u64 s, .int .i64 i, .pointer (some ⟨w.heap.size, 0, none⟩), undef, .pointer (some ⟨w.heap.size + 1, 0, none⟩), .pointer (some ⟨w.heap.size + 1 + 1, 0, none⟩), .int .i64 x.1, .int .u64 s, .func (.func 38) #[] #[.pointer (some ⟨w.heap.size + 1 + 1 + 1, 0, none⟩)], .int .i64 x.1, undef, undef, undef, undef, undef, undef, undef, undef, undef, undef, undef, undef, undef, undef], defers := [] }) ?assign ?body ?done ?stop
  case assign =>
    intro lp x W K hK
    dsimp only [encB]
    gi_wp2
    exact hK
  case body =>
    rintro lp pre x W hI hlt
    have hx := hb x.1 x.2.2
    have hxi : (x.1 : Int) < l.length := by omega
    have hx0 : (0 : Int) ≤ x.1 := by omega
    have hii : (i : Int) < l.length := by omega
    have hi0 : (0 : Int) ≤ i := by omega
    obtain ⟨bk, off, eA, p0, p1, p2, p3, p4⟩ := hr.up hI.U x.1 hx
    subst eA
    obtain ⟨b2, off2, eB, q0, q1, q2, q3, q4⟩ := hr.up hI.U i hi
    cases eB
    have HIW := Lib.hid hI
    have HAH := Lib.hid (fun W => ahead_any (l.getD x.1 op0) (l.getD i op0) W)
    have HOK : Hid (okJ l i x.1 = (x.1 == i || !aheadB (l.getD x.1 op0) (l.getD i op0))) := Lib.hid rfl
    have cl := upCell hI.L.cell
    have ci := upCell hI.I.cell
    have c0 := upCell p0
    have c1 := upCell p1
    have c2 := upCell p2
    have c3 := upCell p3
    have c4 := upCell p4
    have d0 := upCell q0
    have d1 := upCell q1
    have d2 := upCell q2
    have d3 := upCell q3
    have d4 := upCell q4
    have HGO : ∀ wz, Up W wz → okJ l i x.1 = true → KeepsFrom W0.heap.size W wz ∧ Below w.heap.size W wz ∧ InvF w l (some ⟨bk, off, none⟩) c i s (pre ++ [x]) wz := fun wz hu ho =>
      ⟨keepsFrom_up hu, hu.mono HIW.out.U.size, boxed_up HIW.out.L hu, boxed_up HIW.out.I hu, boxed_up HIW.out.R hu, HIW.out.U.trans hu, fun j hj => by
        rw [vals_snoc, List.mem_append] at hj
        rcases hj with h | h
        · exact HIW.out.P j h
        · simp at h; subst h; exact ho⟩
    have HST : ∀ wz, Up W wz → okJ l i x.1 = false → KeepsFrom W0.heap.size W (wz.setCell ⟨w.heap.size + 1 + 1, 0, none⟩ (.bool false)) ∧ ExF w l i s .ret (pre ++ [x]) (wz.setCell ⟨w.heap.size + 1 + 1, 0, none⟩ (.bool false)) := fun wz hu ho =>
      ⟨(keepsFrom_up hu).trans ((KeepsOthers.setCell _ _ _).from _), rfl, (boxed_up HIW.out.R hu).set _, Below.setCell (HIW.out.U.trans hu) (p := ⟨w.heap.size + 1 + 1, 0, none⟩) (by show w.heap.size ≤ w.heap.size + 1 + 1; omega) _, x.1, by rw [vals_snoc]; simp, ho⟩
    have HGO := Lib.hid HGO
    have HST := Lib.hid HST
    clear p0 p1 p2 p3 p4 q0 q1 q2 q3 q4 hI hr
    generalize okJ l i x.1 = ok at *
    generalize aheadB (l.getD x.1 op0) (l.getD i op0) = ah at *
    generalize l.getD x.1 op0 = p at *
    generalize l.getD i op0 = q at *
    obtain ⟨PF, PT, PW, PV, PH⟩ := p
    obtain ⟨QF, QT, QW, QV, QH⟩ := q
    unfold oagg at HAH
    dsimp only at HAH c0 c1 c2 c3 c4 d0 d1 d2 d3 d4
    by_cases hxe : x.1 = i
    · have hne : ((x.1 : Int) != (i : Int)) = false := by rw [hxe]; simp
      have hok : ok = true := by rw [HOK.out, hxe]; simp
      subst hok
      clear HOK HST hxe
      gi_wp2
      refine wpIn_region_up (w0 := W) (by kernel_rfl) (by kernel_rfl) (by kernel_rfl) (Up.refl _) ?_
      repeat (go_big_quiet_step (fail))
      refine wpQuiet_nil ?_
      rintro wz ⟨⟨wy, huy⟩, hwy⟩
      have huz : Up W wz := by rw [hwy]; exact huy
      clear hwy huy
      gi_wp2
      exact HGO.out wz huz (by trivial)
    · have hne : ((x.1 : Int) != (i : Int)) = true := by rw [bne_iff_ne]; omega
      have hok : ok = !ah := by rw [HOK.out, beq_eq_false_iff_ne.2 hxe]; rfl
      subst hok
      clear HOK hxe
      cases ah
      · gi_wp2
        refine wpIn_region_up (w0 := W) (by kernel_rfl) (by kernel_rfl) (by kernel_rfl) (Up.refl _) ?_
        repeat (go_big_quiet_step ((go_at_call 32; with_reducible exact callAbove HAH.out _)))
        refine wpQuiet_nil ?_
        rintro wz ⟨⟨wy, huy⟩, hwy⟩
        have huz : Up W wz := by rw [hwy]; exact huy
        clear hwy huy
        gi_wp2
        exact HGO.out wz huz (by trivial)
      · gi_wp2
        refine wpIn_region_up (w0 := W) (by kernel_rfl) (by kernel_rfl) (by kernel_rfl) (Up.refl _) ?_
        repeat (go_big_quiet_step ((go_at_call 32; with_reducible exact callAbove HAH.out _)))
        refine wpQuiet_nil ?_
        rintro wz ⟨⟨wy, huy⟩, hwy⟩
        have huz : Up W wz := by rw [hwy]; exact huy
        clear hwy huy
        have hrz := (boxed_up HIW.out.R huz).cell
        have hfz := (boxed_up HIW.out.R huz).frozen
        gi_wp2
        exact HST.out wz huz (by trivial)
  case done =>
    rintro D xs W hD hS hI hK
    have hfb : freeB l s i = true := by
      unfold freeB
      rw [← hS, List.all_eq_true]
      exact hI.P
    have cR := hI.R.cell
    have fR := hI.R.frozen
    have hU := hI.U
    gi_wp2
    have hK' := (KeepsOthers.setCell W ⟨w.heap.size + 1 + 1, 0, none⟩ (.bool true)).same D _ hK rfl
    refine ⟨by simp, .inl ⟨_, _, rfl, run_takeDeferred hK', ?_⟩⟩
    have hc5 := cell_kept (World.cell?_setCell_same' W ⟨w.heap.size + 1 + 1, 0, none⟩ (.bool true) (by rw [cR]; rfl)) (grownBy_putObj' _ D (.deferred none)) (fun r e => by cases e; exact ⟨_, hK', rfl⟩)
    refine ⟨.bool true, ?_, by rw [hfb], Below.trans (Below.setCell hU (p := ⟨w.heap.size + 1 + 1, 0, none⟩) (by show w.heap.size ≤ w.heap.size + 1 + 1; omega) _) (belowK_b (w := w) (Nat.le_refl _) _ D _ _ (by omega) hK' rfl rfl)⟩
    simp [results, Tryd.f29, go_sem, hc5]
  case stop =>
    rintro D co pre W hD ⟨zs, hzs⟩ hX hK
    obtain ⟨hco, hR, hU, j, hj, hjf⟩ := hX
    subst hco
    have hfb : freeB l s i = false := by
      unfold freeB
      rw [← hzs, List.all_append, Bool.and_eq_false_iff]
      left
      rw [List.all_eq_false]
      exact ⟨j, hj, by rw [hjf]; simp⟩
    gi_wp2
    refine ⟨by simp, .inl ⟨_, _, rfl, run_takeDeferred hK, ?_⟩⟩
    have hc5 := cell_kept hR.cell (grownBy_putObj' _ D (.deferred none)) (fun r e => by cases e; exact ⟨_, hK, rfl⟩)
    refine ⟨.bool false, ?_, by rw [hfb], Below.trans hU (belowK_b (w := w) (Nat.le_refl _) _ D _ _ (by omega) hK rfl rfl)⟩
    simp [results, Tryd.f29, go_sem, hc5]

end Go.Proofs.YtpefcbmmbpcalaaDoor
