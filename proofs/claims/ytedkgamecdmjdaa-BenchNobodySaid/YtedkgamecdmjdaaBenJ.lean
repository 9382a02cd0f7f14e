/-
  Package bench: the chapter's example.
-/
import Derived.Test.YtedkgamecdmjdaaBenI
set_option linter.unusedVariables false
set_option linter.unusedSimpArgs false
namespace Go.Proofs.Ytedkgamecdmjdaa
open Go.RowKit

theorem strip_row (w : World) (l : List SD) (cs : List Value) (t : TypeId) (h : ∀ k, k < l.length → cs[k * 3]? = some (.int .i64 (l.getD k sd0).many) ∧ cs[k * 3 + 1]? = some (.int .i64 (l.getD k sd0).kind) ∧ cs[k * 3 + 2]? = some (.int .i64 (l.getD k sd0).top)) :
    StripRow (w.alloc (.cells cs.toArray t)) (some ⟨w.heap.size, 0, none⟩) l := fun k hk => by
  obtain ⟨h0, h1, h2⟩ := h k hk
  have c : ∀ j, (w.alloc (.cells cs.toArray t)).cell? ⟨w.heap.size, j, none⟩ = cs[j]? := fun j => by rw [World.cell?_alloc_at _ _ _ _ rfl]; simp
  exact ⟨w.heap.size, 0, rfl, by rw [c, Nat.zero_add]; exact h0, by rw [c, Nat.zero_add]; exact h1, by rw [c, Nat.zero_add]; exact h2⟩


/-- What the example does: it reads a cell, and 5 more. -/
def aliveP (s : TS) : Option Int × TS := match tAsk (1, 0, 0) s with
  | (some x, s') => (some (wrap64 (x + 5)), s')
  | (none, s') => (none, s')
theorem acl_any (g B : Nat) (k : Int) (s : TS) (w : World) (h : Tape1 w g B s) :
    Calls Try.prog 22 #[.pointer (some ⟨g, 0, none⟩), .int .i64 0, .int .i64 k] w (TPost encI g B w (aliveP s)) := by
  have HR := Lib.hid (read_any g B 0 s w h)
  have HE := Lib.hid (show aliveP s = match tAsk (1, 0, 0) s with
    | (some x, s') => (some (wrap64 (x + 5)), s')
    | (none, s') => (none, s') from rfl)
  obtain ⟨r, hr⟩ : ∃ r, tAsk (1, 0, 0) s = r := ⟨_, rfl⟩
  obtain ⟨q, hq⟩ : ∃ q, aliveP s = q := ⟨_, rfl⟩
  rw [hr] at HR HE
  rw [hq] at HE ⊢
  clear hr hq h
  go_enter Try.func22, Try.ntmps22
  go_wp2_with fail
  refine HR.out.mono ?_
  intro e w' hT
  obtain ⟨ro, s'⟩ := r
  cases ro with
  | none =>
    obtain ⟨rfl, hT1, hT2⟩ := TPost.of_none rfl hT
    have H := Lib.hid (And.intro hT1 hT2)
    have HE2 := Lib.hid HE.out
    clear hT hT1 hT2 HR
    go_wp2_with fail
    exact ⟨rfl, TPost.none HE2.out ⟨rfl, H.out.1, H.out.2⟩⟩
  | some v =>
    obtain ⟨rfl, hT1, hT2⟩ := TPost.of_some rfl hT
    have H := Lib.hid (And.intro hT1 hT2)
    have HE2 := Lib.hid HE.out
    clear hT hT1 hT2 HR HE
    unfold encI
    go_wp2_with fail
    go_ret
    exact TPost.some HE2.out ⟨rfl, H.out.1, H.out.2⟩

def exB : List SD := [⟨1, 1, 9⟩]
def eb1 : BS := (bs0.begin 1 6 (mkP exB) 0 1 0 0).2
theorem eb1_told : (eb1.endA (mkP exB) 0 0).1 = 0 := by decide
theorem alive_told : aliveP ⟨[] ++ [(eb1.endA (mkP exB) 0 0).1], [], [], []⟩ = (some 5, ⟨[0], [], [(1, 0, 0)], []⟩) := by
  rw [eb1_told]
  have h5 : wrap64 5 = 5 := IntWalk.wrap64_in _ (by omega)
  simp [aliveP, tAsk, TS.told, TS.asked, h5]
def eb2 : BS := (eb1.endA (mkP exB) 0 0).2.2

set_option maxRecDepth 10000 in
set_option maxHeartbeats 4000000 in
theorem alive50_any (w : World) : Calls Try.prog 10 #[] w fun e w' => e = .returned (.bool true) ∧ Up w w' := by
  have hcf : ∀ (args : Array Value) (W : World), (callFunc 22 args).run Try.prog W = .ok (.enter 22 args) W := fun args W => enters Try.func22 (by kernel_rfl) rfl args W
  have hr0 := strip_row w exB [.int .i64 1, .int .i64 1, .int .i64 9] 41 (fun k hk => by
    match k, hk with
    | 0, _ => exact ⟨rfl, rfl, rfl⟩)
  have hu0 : Up w (w.alloc (.cells #[.int .i64 1, .int .i64 1, .int .i64 9] 41)) := (Up.refl w).alloc _
  have hu1 : Up (w.alloc (.cells #[.int .i64 1, .int .i64 1, .int .i64 9] 41)) ((w.alloc (.cells #[.int .i64 1, .int .i64 1, .int .i64 9] 41)).alloc (.cells #[.int .i64 1] 3)) := (Up.refl _).alloc _
  have hm0 : ((w.alloc (.cells #[.int .i64 1, .int .i64 1, .int .i64 9] 41)).alloc (.cells #[.int .i64 1] 3)).cell? ⟨w.heap.size + 1, 0, none⟩ = some (.int .i64 1) := by
    have := cell_of_row _ _ 0 _ _ _ (heap_alloc_new (w.alloc (.cells #[.int .i64 1, .int .i64 1, .int .i64 9] 41)) (.cells #[.int .i64 1] 3))
    rw [World.size_alloc] at this
    exact this
  obtain ⟨W0, hW0⟩ : ∃ x, (w.alloc (.cells #[.int .i64 1, .int .i64 1, .int .i64 9] 41)).alloc (.cells #[.int .i64 1] 3) = x := ⟨_, rfl⟩
  have HU0 := Lib.hid (show Up w W0 from hW0 ▸ hu0.trans hu1)
  have hr1 : StripRow W0 (some ⟨w.heap.size, 0, none⟩) exB := hW0 ▸ hr0.up hu1
  rw [hW0] at hm0
  have HNW := Lib.hid (newB_ok exB (some ⟨w.heap.size, 0, none⟩) 1 (w.heap.size + 1) 1 1 22 #[] W0 (by decide) hr1 (by decide) hm0 (by decide) (by decide))
  have HP1 := Lib.hid (fun (W : World) (b g h c1 : Nat) (X : Nat → Prop) (H : Ben W0 W b g h c1 (.func (.func 22) #[] #[]) exB (tb0 1) bs0 0 (.slice none 0 0) (.slice none 0 0) (.slice none 0 0) X) =>
    pick_idle (p := aliveP) H rfl (by decide) ⟨by decide, by decide, by decide⟩ (by decide) hcf (fun W' g' B _ _ hT => acl_any g' B _ _ W' hT) (by decide) (by decide) (by decide) (by decide) (none, ⟨[], [], [(1, 0, 0)], []⟩) rfl (by decide) (by decide) (fun _ => by decide) (by decide) (fun _ => by decide))
  have HP2 := Lib.hid (fun (W : World) (b g h c1 : Nat) (X : Nat → Prop) (H : Ben W0 W b g h c1 (.func (.func 22) #[] #[]) exB ⟨1, 0, [], [], (1, 0, 0), 2, 0, 1, 0⟩ eb1 9 (.slice none 0 0) (.slice none 0 0) (.slice none 0 0) X) =>
    pick_begun (p := aliveP) H rfl (by decide) (mkP exB) (by decide) (by decide) hcf (fun W' g' B _ _ hT => acl_any g' B _ _ W' hT) (by decide) (by decide) (by decide) (some 5, ⟨[0], [], [(1, 0, 0)], []⟩) alive_told (by decide) (by decide) (fun h => by cases h) (by decide))
  have HF := Lib.hid (fun (W : World) => newB_few [] none 0 .nilFunc W (by decide) (fun k hk => absurd hk (Nat.not_lt_zero k)) (by decide))
  have HNL := Lib.hid (fun (W : World) (M : Option Addr) => newB_nil [] none 0 M 1 W (by decide) (fun k hk => absurd hk (Nat.not_lt_zero k)) (by decide))
  have heq : ∀ W : World, (binOp .eql 61 (.agg #[.int .i64 2, .int .i64 2, .int .i64 0, .int .i64 0, .int .i64 0, .int .i64 0, .int .i64 5]) (.agg #[.int .i64 2, .int .i64 2, .int .i64 0, .int .i64 0, .int .i64 0, .int .i64 0, .int .i64 5])).run Try.prog W = .ok (.bool true) W := fun _ => by kernel_rfl
  clear hr0 hu0 hu1 hm0 hr1 hcf
  go_enter Try.func10, Try.ntmps10
  go_wp2_with fail
  clear hW0
  refine HNW.out.mono ?_
  rintro e w1 ⟨b, g, h, c1, X, rfl, h1⟩
  have H1 := Lib.hid (HP1.out w1 b g h c1 X h1)
  clear h1 HNW HP1
  go_wp2_with fail
  refine H1.out.mono ?_
  intro e w2 h2
  obtain ⟨A, c, X2, rfl, h2⟩ := h2
  have hn1 : wrap64 ((tb0 1).now + 1) = 1 := IntWalk.wrap64_in 1 (by omega)
  rw [hn1] at h2
  have H2 := Lib.hid (HP2.out w2 b g h c1 X2 h2)
  clear h2 H1 HP2
  go_wp2_with fail
  refine H2.out.mono ?_
  rintro e w3 ⟨w2', vm', va', X', h3⟩
  obtain ⟨-, v, xs, rfl, h4, -, vl', h5⟩ := h3
  dsimp only at h4 h5
  have hxs : xs = [] := List.eq_nil_of_length_eq_zero (by have := h4.1; simpa using this)
  subst hxs
  have hn2 : wrap64 (1 + 1) = 2 := IntWalk.wrap64_in _ (by omega)
  rw [hn2] at h4 h5
  obtain ⟨yA, yc, rfl, _, _⟩ := own_form h4
  have hyb : ∃ yg, yA = some ⟨yg, 0, none⟩ := by
    rcases h4.2 with ⟨h6, _⟩ | ⟨g', cap', cur, h6, _⟩
    · cases h6
    · simp only [Value.slice.injEq] at h6; exact ⟨g', h6.1⟩
  obtain ⟨yg, rfl⟩ := hyb
  have HY := Lib.hid (cs_own (f := fun j => [Value.int .i64 2, .int .i64 2, .int .i64 0, .int .i64 0, .int .i64 0, .int .i64 0, .int .i64 5].getD j undef) h4 (fun j hj => by match j, hj with | 0, _ | 1, _ | 2, _ | 3, _ | 4, _ | 5, _ | 6, _ => rfl))
  have HB3 := Lib.hid h5
  clear h4 h5 H2
  go_wp2_with fail
  refine (HF.out w3).mono ?_
  rintro e w4 ⟨rfl, hu4⟩
  have HU4 := Lib.hid hu4
  clear hu4 HF
  go_wp2_with fail
  refine (HNL.out _ _).mono ?_
  rintro e w5 ⟨rfl, hu5⟩
  have HU5 := Lib.hid (HU4.out.trans (((Up.refl w4).alloc _).trans hu5))
  have HB5 := Lib.hid (HB3.out.grow HU5.out)
  have y0 := (HU5.out.cell (cell_lt (HY.out.cell 0 (by decide)))).trans (HY.out.cell 0 (by decide))
  have y1 := (HU5.out.cell (cell_lt (HY.out.cell 1 (by decide)))).trans (HY.out.cell 1 (by decide))
  have y2 := (HU5.out.cell (cell_lt (HY.out.cell 2 (by decide)))).trans (HY.out.cell 2 (by decide))
  have y3 := (HU5.out.cell (cell_lt (HY.out.cell 3 (by decide)))).trans (HY.out.cell 3 (by decide))
  have y4 := (HU5.out.cell (cell_lt (HY.out.cell 4 (by decide)))).trans (HY.out.cell 4 (by decide))
  have y5 := (HU5.out.cell (cell_lt (HY.out.cell 5 (by decide)))).trans (HY.out.cell 5 (by decide))
  have y6 := (HU5.out.cell (cell_lt (HY.out.cell 6 (by decide)))).trans (HY.out.cell 6 (by decide))
  simp only [List.getD_cons_zero, List.getD_cons_succ] at y0 y1 y2 y3 y4 y5 y6
  clear hu5 HNL HU4
  have hnx : wrap64 (0 + 1) = 1 := IntWalk.wrap64_in _ (by omega)
  have hb5 := HB5.out
  rw [hnx] at hb5
  have HB6 := Lib.hid hb5
  clear hb5 HB5
  go_wp2_with fail
  refine (over_any b g c1 0 1 1 w5 (HB6.out.cb.cell 1 (by decide)) (HB6.out.cg.cell 0 (by decide)) (HB6.out.cg.cell 1 (by decide)) (HB6.out.cg.cell 7 (by decide))).mono ?_
  rintro e w6 ⟨rfl, hu6⟩
  have HB7 := Lib.hid (HB6.out.grow hu6)
  have hov : overB 0 1 1 = true := by decide
  rw [hov]
  clear hu6 hov y0 y1 y2 y3 y4 y5 y6
  go_wp2_with fail
  refine (over_no b g c1 1 w6 (by decide) (HB7.out.cb.cell 1 (by decide))).mono ?_
  rintro e w7 ⟨rfl, hu7⟩
  have HB8 := Lib.hid (HB7.out.grow hu7)
  clear hu7
  go_wp2_with fail
  refine (marks_any HB8.out (by decide)).mono ?_
  rintro e w8 ⟨⟨Am, cm, rfl⟩, hu8⟩
  have HB9 := Lib.hid (HB8.out.grow hu8)
  clear hu8
  dsimp only
  go_wp2_with fail
  refine (now_any b 2 w8 (HB9.out.cb.cell 5 (by decide))).mono ?_
  rintro e w9 ⟨rfl, hu9⟩
  have HU9 := Lib.hid (HU0.out.trans (HB9.out.up.trans hu9))
  clear hu9
  go_wp2_with fail
  go_ret
  exact ⟨rfl, HU9.out⟩

end Go.Proofs.Ytedkgamecdmjdaa
