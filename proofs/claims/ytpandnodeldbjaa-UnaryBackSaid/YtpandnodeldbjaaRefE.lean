/-
  The document's Mem: New, Short, Out.
-/
import Derived.Test.YtpandnodeldbjaaRefD
import Derived.Test.YtpandnodeldbjaaTapeF
set_option linter.unusedVariables false
set_option linter.unusedSimpArgs false
namespace Go.Proofs.Ytpandnodeldbjaa
open Go.RowKit

theorem newR_is {w w1 : World} {loc ans : List Int} {A A1 : Option Addr} {c c1 : Nat} (hbel : Up w w1) (hown : w1.ownsRow w.heap.size 3 1 (.slice A loc.length c) loc.length (icells loc)) (hl0 : loc.length ≤ 3000) (hl1 : ans.length ≤ 3000)
    (hr1 : Row w A1 ans.length (IVal ans)) :
    RefIs (w1.alloc (.cells #[.slice A1 ans.length c1, .int .i64 0, .bool false, .slice none 0 0, .slice none 0 0, .slice A loc.length c] 54)) w1.heap.size w.heap.size ⟨⟨ans, loc, [], []⟩, false⟩ := by
  have hb := heap_alloc_new w1 (.cells #[.slice A1 ans.length c1, .int .i64 0, .bool false, .slice none 0 0, .slice none 0 0, .slice A loc.length c] 54)
  have hU : Up w1 (w1.alloc (.cells #[.slice A1 ans.length c1, .int .i64 0, .bool false, .slice none 0 0, .slice none 0 0, .slice A loc.length c] 54)) := (Up.refl w1).alloc _
  have hs : (w1.alloc (.cells #[.slice A1 ans.length c1, .int .i64 0, .bool false, .slice none 0 0, .slice none 0 0, .slice A loc.length c] 54)).heap.size = w1.heap.size + 1 := by simp
  generalize w1.alloc (.cells #[.slice A1 ans.length c1, .int .i64 0, .bool false, .slice none 0 0, .slice none 0 0, .slice A loc.length c] 54) = W at *
  have hcj : ∀ j, W.cell? ⟨w1.heap.size, j, none⟩ = #[Value.slice A1 ans.length c1, .int .i64 0, .bool false, .slice none 0 0, .slice none 0 0, .slice A loc.length c][j]? := fun j => cell_of_row W _ j _ _ _ hb
  have hsz := hbel.size
  refine ⟨⟨hsz, ⟨_, hb⟩, by omega, fun j => frozen_of_row W _ j _ _ hb, ⟨A1, c1, hcj 0, ?_, ?_⟩, ⟨_, hcj 3, World.ownsRow_nil _ _ _ _⟩, ⟨_, hcj 4, World.ownsRow_nil _ _ _ _⟩, ⟨_, hcj 5, own_up hown hU⟩, by simp only; omega, by simp only; omega⟩, ?_, hcj 2, fun _ => by simp, fun h => by simp at h⟩
  · exact (hr1.up hbel).up hU
  · intro b off e hp
    obtain ⟨b', off', e', hcell⟩ := hr1 0 hp
    rw [e] at e'
    cases e'
    exact cell_lt hcell
  · rw [hcj 1]
    simp

set_option maxRecDepth 10000 in
set_option maxHeartbeats 1000000 in
theorem newR_any (loc ans : List Int) (A0 A1 : Option Addr) (c0 c1 : Nat) (w : World) (hA0 : A0 = none → c0 = 0) (hl0 : loc.length ≤ 3000) (hl1 : ans.length ≤ 3000)
    (hr0 : Row w A0 loc.length (IVal loc)) (hr1 : Row w A1 ans.length (IVal ans)) :
    Calls Try.prog 18 #[.slice A0 loc.length c0, .slice A1 ans.length c1] w fun e w' =>
      ∃ h, e = .returned (.pointer (some ⟨h, 0, none⟩)) ∧ RefIs w' h w.heap.size ⟨⟨ans, loc, [], []⟩, false⟩ ∧ Up w w' := by
  obtain ⟨i0, hi, hz0, hz1, hz2⟩ := info_parts infoInt
  have HI := Lib.hid hi
  have HZ0 := Lib.hid hz0
  have HZ1 := Lib.hid hz1
  have HZ2 := Lib.hid hz2
  have HR := Lib.hid hr0
  have HA := Lib.hid hA0
  have HRI := Lib.hid (range_ival loc)
  have H1 := Lib.hid (show ∀ u ∈ (List.range loc.length).map (IVal loc), u.oneCell' = true by rw [HRI.out]; exact icells_one loc)
  have HNW := Lib.hid (fun (w1 : World) (A : Option Addr) (c : Nat) (hU : Up w w1) ho => newR_is (w := w) (w1 := w1) (A := A) (c := c) (c1 := c1) (A1 := A1) hU ho hl0 hl1 hr1)
  obtain ⟨n, hn⟩ : ∃ n, loc.length = n := ⟨_, rfl⟩
  obtain ⟨m, hm⟩ : ∃ m, ans.length = m := ⟨_, rfl⟩
  rw [hn] at HR HRI H1 hl0 HNW ⊢
  rw [hm] at HNW ⊢
  have HB := Lib.hid hl0
  clear hi hz0 hz1 hz2 hr0 hA0 hn hm hr1 hl1
  go_enter Try.func18, Try.ntmps18
  go_wp2_with (at_builtin; refine wpList_appendRow rfl (.tmp 6) (.tmp 7) 23 rfl w.heap.size 3 i0 (.int .i64 0) 8 Try.underlying23 HI.out HZ0.out HZ1.out HZ2.out rfl _ 0 [] rfl ?_ A0 n c0 (IVal loc) rfl HA.out ?_ H1.out (by decide) (by have := HB.out; omega) ?_ ?_)
  case _ => exact own_empty w 3
  case _ => exact HR.out.up ((Up.refl w).alloc _)
  case _ => simp
  · intro v1 w1 hown1 hg hbel
    rw [HRI.out] at hown1
    obtain ⟨A, c, rfl, hc1, hc2⟩ := own_form hown1
    have HU := Lib.hid (show Up w w1 from Below.trans ((Up.refl w).alloc _) hbel)
    have HN2 := Lib.hid (HNW.out w1 A c HU.out hown1)
    have hlt : ((32768 : Int) < (n : Int)) = False := by simp; omega
    clear hown1 hg hbel
    go_wp2_with fail
    go_ret
    exact ⟨_, rfl, HN2.out, HU.out.alloc _⟩

theorem shortLen_succ0 (l : List Int) (k : Nat) (h : l.getD k 0 = 0) : shortLen l (k + 1) = shortLen l k := by
  show (if l.getD k 0 = 0 then shortLen l k else k + 1) = _; rw [if_pos h]
theorem shortLen_succ1 (l : List Int) (k : Nat) (h : ¬ l.getD k 0 = 0) : shortLen l (k + 1) = k + 1 := by
  show (if l.getD k 0 = 0 then shortLen l k else k + 1) = _; rw [if_neg h]

set_option maxRecDepth 10000 in
set_option maxHeartbeats 1000000 in
theorem rshort_any (l : List Int) (A : Option Addr) (c : Nat) (w : World) (hr : Row w A l.length (IVal l)) (hb : l.length ≤ 1000000) (hcl : l.length ≤ c) :
    Calls Try.prog 24 #[.slice A l.length c] w fun e w' => (∃ d, e = .returned (.slice A (shortL l).length d)) ∧ w' = w := by
  have HR := Lib.hid hr
  have HS := Lib.hid (show ∀ k, k < l.length → l.getD k 0 = 0 → shortLen l (k + 1) = shortLen l k from fun k _ h => shortLen_succ0 l k h)
  have HS2 := Lib.hid (show ∀ k, k < l.length → ¬ l.getD k 0 = 0 → shortLen l (k + 1) = k + 1 from fun k _ h => shortLen_succ1 l k h)
  have HS0 := Lib.hid (show shortLen l 0 = 0 from rfl)
  have HL := Lib.hid (shortL_length l)
  obtain ⟨n, hn⟩ : ∃ n, l.length = n := ⟨_, rfl⟩
  rw [hn] at HR hb hcl HS HS2 HL ⊢
  rw [HL.out]
  clear hr hn
  go_enter Try.func24, Try.ntmps24
  go_wp2_with fail
  go_loop [0] (fun t => ∃ k d : Nat, k ≤ n ∧ k ≤ d ∧ t = .slice A k d ∧ Hid (shortLen l k = shortLen l n)) (fun t => match t with | .slice _ k _ => k | _ => 0)
  case atStart => exact ⟨n, c, Nat.le_refl _, hcl, rfl, Lib.hid rfl⟩
  case round =>
    obtain ⟨k, d, hk, hkd, rfl, HK⟩ := hrel
    cases k with
    | zero =>
      have HZ := Lib.hid (show shortLen l n = 0 by rw [← HK.out]; exact HS0.out)
      go_wp2_with fail
      go_ret
      exact ⟨⟨d, by rw [HZ.out]; rfl⟩, rfl⟩
    | succ k =>
      obtain ⟨b, off, rfl, hcell⟩ := HR.out k (by omega)
      unfold IVal at hcell
      have HSk := Lib.hid (HS.out k (by omega))
      have HSk2 := Lib.hid (HS2.out k (by omega))
      generalize l.getD k 0 = x at *
      have e1 : ((k + 1 : Nat) : Int) = (k : Int) + 1 := by omega
      by_cases hx : x = 0
      · subst hx
        have HX := Lib.hid ((HSk.out rfl).symm.trans HK.out)
        have hin : (k : Int) < ((k : Int) + 1) := by omega
        have hkd2 : (k : Int) ≤ (d : Int) := by omega
        have hk0 : (0 : Int) ≤ (k : Int) := by omega
        go_wp2_with fail
        exact ⟨⟨k, d, by omega, by omega, rfl, HX⟩, Nat.lt_succ_self k⟩
      · have hx0 : (x == 0) = false := by simpa using hx
        have HX := Lib.hid (show shortLen l n = k + 1 by rw [← HK.out]; exact HSk2.out hx)
        have hin : (k : Int) < ((k : Int) + 1) := by omega
        go_wp2_with fail
        go_ret
        exact ⟨⟨d, by rw [HX.out]; rfl⟩, rfl⟩

/-- An api.Out in memory, to be looked at. -/
def OutR (w : World) (v : Value) (done : Bool) (s : TS) : Prop := ∃ A c N d L e, v = .agg #[.bool done, .slice A s.acc.length c, .slice N s.nts.length d, .slice L (shortL s.loc).length e] ∧
  AccRow w A s.acc ∧ NoteRow w N s.nts ∧ Row w L (shortL s.loc).length (IVal (shortL s.loc))
theorem OutIs.r {w : World} {v : Value} {done : Bool} {s : TS} (h : OutIs w v done s) : OutR w v done s := by
  obtain ⟨A, c, N, d, L, e, h0, h1, h2, h3, _⟩ := h
  exact ⟨A, c, N, d, L, e, h0, h1, h2, h3⟩
theorem OutR.up {w w' : World} {v : Value} {done : Bool} {s : TS} (h : OutR w v done s) (hU : Up w w') : OutR w' v done s := by
  obtain ⟨A, c, N, d, L, e, h0, h1, h2, h3⟩ := h
  exact ⟨A, c, N, d, L, e, h0, h1.up hU, h2.up hU, h3.up hU⟩
theorem OutIs.up {w w' : World} {v : Value} {done : Bool} {s : TS} (h : OutIs w v done s) (hU : Up w w') : OutIs w' v done s := by
  obtain ⟨A, c, N, d, L, e, h0, h1, h2, h3, h4⟩ := h
  exact ⟨A, c, N, d, L, e, h0, h1.up hU, h2.up hU, h3.up hU, h4⟩

set_option maxRecDepth 10000 in
set_option maxHeartbeats 2000000 in
theorem rout_any (h B : Nat) (r : RS) (w : World) (R : RefIs w h B r) :
    Calls Try.prog 21 #[.pointer (some ⟨h, 0, none⟩)] w fun e w' => ∃ ov, e = .returned ov ∧ OutR w' ov (!r.over) r.t ∧ Up w w' := by
  obtain ⟨s, o⟩ := r
  have c2 := R.ov
  simp only at c2 ⊢
  obtain ⟨vA, hcA, hoA⟩ := R.c.acc
  obtain ⟨A, cA, rfl, _, _⟩ := own_form hoA
  obtain ⟨vN, hcN, hoN⟩ := R.c.nts
  obtain ⟨N, cN, rfl, _, _⟩ := own_form hoN
  obtain ⟨vL, hcL, hoL⟩ := R.c.loc
  obtain ⟨L, cL, rfl, hcl, _⟩ := own_form hoL
  have hrow : Row w L s.loc.length (IVal s.loc) := by
    obtain ⟨A1, c1, hA, hrow, _⟩ := own_row (f := IVal s.loc) hoL (fun k hk => iVal_map hk)
    simp only [Value.slice.injEq] at hA
    obtain ⟨rfl, _, _⟩ := hA
    exact hrow
  have HSH := Lib.hid (fun (W : World) (hU : Up w W) => rshort_any s.loc L cL W (hrow.up hU) (by have := R.c.ll; simp only at this; omega) hcl)
  have HF := Lib.hid (show ∀ (W : World) (e : Nat), Up w W → OutR W (.agg #[.bool (!o), .slice A s.acc.length cA, .slice N s.nts.length cN, .slice L (shortL s.loc).length e]) (!o) s from fun W e hU => ⟨A, cA, N, cN, L, e, rfl, (acc_row hoA).up hU, (note_row hoN).up hU, by
    have h1 := hrow.up hU
    unfold shortL
    rw [List.length_take]
    have := shortLen_le s.loc s.loc.length
    rw [Nat.min_eq_left this]
    exact row_takeI h1 this⟩)
  have hhs := R.c.hs
  simp only at hcA hcN hcL hhs
  clear R hoA hoN hoL hrow hcl
  generalize s.acc.length = n1 at *
  generalize s.nts.length = n2 at *
  generalize s.loc.length = n3 at *
  have hnot : ∀ (x : Bool) (w : World), (Op.unary .not (.bool x)).run Try.prog w = .ok (.bool (!x)) w := fun _ _ => rfl
  go_enter Try.func21, Try.ntmps21
  go_wp2_with fail
  have hb := heap_alloc_new w (.cells #[.bool false, .slice none 0 0, .slice none 0 0, .slice none 0 0] 29)
  have HU := Lib.hid (((Up.refl w).alloc (.cells #[.bool false, .slice none 0 0, .slice none 0 0, .slice none 0 0] 29)).drew)
  have hs1 : (w.alloc (.cells #[.bool false, .slice none 0 0, .slice none 0 0, .slice none 0 0] 29)).heap.size = w.heap.size + 1 := by simp
  have HU0 := Lib.hid ((Up.refl w).alloc (.cells #[.bool false, .slice none 0 0, .slice none 0 0, .slice none 0 0] 29))
  have hd := fun j (v : Value) (hj : w.cell? ⟨h, j, none⟩ = some v) => (HU0.out.cell (p := ⟨h, j, none⟩) hhs).trans hj
  have hS0 : (w.alloc (.cells #[.bool false, .slice none 0 0, .slice none 0 0, .slice none 0 0] 29)).drew.cell? ⟨h, 2, none⟩ = some (.bool o) ∧ (w.alloc (.cells #[.bool false, .slice none 0 0, .slice none 0 0, .slice none 0 0] 29)).drew.cell? ⟨h, 3, none⟩ = some (.slice A n1 cA) ∧
      (w.alloc (.cells #[.bool false, .slice none 0 0, .slice none 0 0, .slice none 0 0] 29)).drew.cell? ⟨h, 4, none⟩ = some (.slice N n2 cN) ∧ (w.alloc (.cells #[.bool false, .slice none 0 0, .slice none 0 0, .slice none 0 0] 29)).drew.cell? ⟨h, 5, none⟩ = some (.slice L n3 cL) := ⟨hd 2 _ c2, hd 3 _ hcA, hd 4 _ hcN, hd 5 _ hcL⟩
  generalize w.alloc (.cells #[.bool false, .slice none 0 0, .slice none 0 0, .slice none 0 0] 29) = W1 at *
  have HB := Lib.hid hb
  have HHS := Lib.hid hhs
  clear hd hb hs1 c2 hcA hcN hcL hhs
  refine wp_region_held_drew (S := fun w => w.cell? ⟨h, 2, none⟩ = some (.bool o) ∧ w.cell? ⟨h, 3, none⟩ = some (.slice A n1 cA) ∧ w.cell? ⟨h, 4, none⟩ = some (.slice N n2 cN) ∧ w.cell? ⟨h, 5, none⟩ = some (.slice L n3 cL)) (by kernel_rfl) hS0 (fun hH0 => ?_)
  clear hS0
  refine wpAnyH_take (i := 0) (v := ?_) rfl (by kernel_rfl) (by kernel_rfl) (by kernel_rfl) (fun _ _ _ h => h) (Or.inl ⟨by kernel_rfl, ?_⟩) hH0 ?_
  rotate_left
  · intro w hSw
    try dsimp only at hSw
    go_simp
    try (with_reducible rfl)
  try simp only [Act.put, List.setIfInBounds_toArray, List.set_cons_zero, List.set_cons_succ]
  refine wpAnyH_take (i := 1) (v := ?_) rfl (by kernel_rfl) (by kernel_rfl) (by kernel_rfl) (fun _ _ _ h => h) (Or.inl ⟨by kernel_rfl, ?_⟩) hH0 ?_
  rotate_left
  · intro w hSw
    try dsimp only at hSw
    go_simp
    try (with_reducible rfl)
  try simp only [Act.put, List.setIfInBounds_toArray, List.set_cons_zero, List.set_cons_succ]
  refine wpAnyH_take (i := 2) (v := ?_) rfl (by kernel_rfl) (by kernel_rfl) (by kernel_rfl) (fun _ _ _ h => h) (Or.inl ⟨by kernel_rfl, ?_⟩) hH0 ?_
  rotate_left
  · intro w hSw
    try dsimp only at hSw
    go_simp
    try (with_reducible rfl)
  try simp only [Act.put, List.setIfInBounds_toArray, List.set_cons_zero, List.set_cons_succ]
  refine wpAnyH_take (i := 3) (v := ?_) rfl (by kernel_rfl) (by kernel_rfl) (by kernel_rfl) (fun _ _ _ h => h) (Or.inl ⟨by kernel_rfl, ?_⟩) hH0 ?_
  rotate_left
  · intro w hSw
    try dsimp only at hSw
    go_simp
    try (with_reducible rfl)
  try simp only [Act.put, List.setIfInBounds_toArray, List.set_cons_zero, List.set_cons_succ]
  refine wpAnyH_take (i := 4) (v := ?_) rfl (by kernel_rfl) (by kernel_rfl) (by kernel_rfl) (fun _ _ _ h => h) (Or.inl ⟨by kernel_rfl, ?_⟩) hH0 ?_
  rotate_left
  · intro w hSw
    try dsimp only at hSw
    go_simp
    try (with_reducible rfl)
  try simp only [Act.put, List.setIfInBounds_toArray, List.set_cons_zero, List.set_cons_succ]
  refine wpAnyH_take (i := 5) (v := ?_) rfl (by kernel_rfl) (by kernel_rfl) (by kernel_rfl) (fun _ _ _ h => h) (Or.inl ⟨by kernel_rfl, ?_⟩) hH0 ?_
  rotate_left
  · intro w hSw
    try dsimp only at hSw
    go_simp
    try (with_reducible rfl)
  try simp only [Act.put, List.setIfInBounds_toArray, List.set_cons_zero, List.set_cons_succ]
  refine wpAnyH_take (i := 6) (v := ?_) rfl (by kernel_rfl) (by kernel_rfl) (by kernel_rfl) (fun _ _ _ h => h) (Or.inl ⟨by kernel_rfl, ?_⟩) hH0 ?_
  rotate_left
  · intro w hSw
    try dsimp only at hSw
    go_simp
    try (with_reducible rfl)
  try simp only [Act.put, List.setIfInBounds_toArray, List.set_cons_zero, List.set_cons_succ]
  refine wpAnyH_take (i := 7) (v := ?_) rfl (by kernel_rfl) (by kernel_rfl) (by kernel_rfl) (fun _ _ _ h => h) (Or.inl ⟨by kernel_rfl, ?_⟩) hH0 ?_
  rotate_left
  · intro w hSw
    try dsimp only at hSw
    go_simp
    try (with_reducible rfl)
  try simp only [Act.put, List.setIfInBounds_toArray, List.set_cons_zero, List.set_cons_succ]
  refine wpAnyH_take (i := 8) (v := ?_) rfl (by kernel_rfl) (by kernel_rfl) (by kernel_rfl) (fun _ _ _ h => h) (Or.inl ⟨by kernel_rfl, ?_⟩) hH0 ?_
  rotate_left
  · intro w hSw
    try dsimp only at hSw
    go_simp
    try (with_reducible rfl)
  try simp only [Act.put, List.setIfInBounds_toArray, List.set_cons_zero, List.set_cons_succ]
  refine wpAnyH_take (i := 9) (v := ?_) rfl (by kernel_rfl) (by kernel_rfl) (by kernel_rfl) (fun _ _ _ h => h) (Or.inl ⟨by kernel_rfl, ?_⟩) hH0 ?_
  rotate_left
  · intro w hSw
    try dsimp only at hSw
    go_simp
    try (with_reducible rfl)
  try simp only [Act.put, List.setIfInBounds_toArray, List.set_cons_zero, List.set_cons_succ]
  refine wpAnyH_take (i := 10) (v := ?_) rfl (by kernel_rfl) (by kernel_rfl) (by kernel_rfl) (fun _ _ _ h => h) (Or.inl ⟨by kernel_rfl, ?_⟩) hH0 ?_
  rotate_left
  · intro w hSw
    try dsimp only at hSw
    go_simp
    try (with_reducible rfl)
  try simp only [Act.put, List.setIfInBounds_toArray, List.set_cons_zero, List.set_cons_succ]
  refine wpAnyH_take (i := 11) (v := ?_) rfl (by kernel_rfl) (by kernel_rfl) (by kernel_rfl) (fun _ _ _ h => h) (Or.inl ⟨by kernel_rfl, ?_⟩) hH0 ?_
  rotate_left
  · intro w hSw
    try dsimp only at hSw
    go_simp
    try (with_reducible rfl)
  try simp only [Act.put, List.setIfInBounds_toArray, List.set_cons_zero, List.set_cons_succ]
  refine wpAnyH_take (i := 12) (v := ?_) rfl (by kernel_rfl) (by kernel_rfl) (by kernel_rfl) (fun _ _ _ h => h) (Or.inl ⟨by kernel_rfl, ?_⟩) hH0 ?_
  rotate_left
  · intro w hSw
    try dsimp only at hSw
    go_simp
    try (with_reducible rfl)
  try simp only [Act.put, List.setIfInBounds_toArray, List.set_cons_zero, List.set_cons_succ]
  refine wpAnyH_take (i := 13) (v := ?_) rfl (by kernel_rfl) (by kernel_rfl) (by kernel_rfl) (fun _ _ _ h => h) (Or.inl ⟨by kernel_rfl, ?_⟩) hH0 ?_
  rotate_left
  · intro w hSw
    try dsimp only at hSw
    go_simp
    try (with_reducible rfl)
  try simp only [Act.put, List.setIfInBounds_toArray, List.set_cons_zero, List.set_cons_succ]
  refine wpAnyH_take (i := 14) (v := ?_) rfl (by kernel_rfl) (by kernel_rfl) (by kernel_rfl) (fun _ _ _ h => h) (Or.inl ⟨by kernel_rfl, ?_⟩) hH0 ?_
  rotate_left
  · intro w hSw
    try dsimp only at hSw
    go_simp
    try (with_reducible rfl)
  try simp only [Act.put, List.setIfInBounds_toArray, List.set_cons_zero, List.set_cons_succ]
  refine wpAnyH_take (i := 15) (v := ?_) rfl (by kernel_rfl) (by kernel_rfl) (by kernel_rfl) (fun _ _ _ h => h) (Or.inl ⟨by kernel_rfl, ?_⟩) hH0 ?_
  rotate_left
  · intro w hSw
    try dsimp only at hSw
    go_simp
    try (with_reducible rfl)
  try simp only [Act.put, List.setIfInBounds_toArray, List.set_cons_zero, List.set_cons_succ]
  refine wpAnyH_take (i := 16) (v := ?_) rfl (by kernel_rfl) (by kernel_rfl) (by kernel_rfl) (fun _ _ _ h => h) (Or.inl ⟨by kernel_rfl, ?_⟩) hH0 ?_
  rotate_left
  · intro w hSw
    try dsimp only at hSw
    go_simp
    try (with_reducible rfl)
  try simp only [Act.put, List.setIfInBounds_toArray, List.set_cons_zero, List.set_cons_succ]
  refine wpAnyH_ready (rs := [17]) (by kernel_rfl) (by simp) ?_
  refine AllReadyH.cons rfl (fun K hK => ?_) AllReadyH.nil
  go_simp
  refine (HSH.out W1.drew HU.out).mono ?_
  rintro e w2 ⟨⟨d, rfl⟩, rfl⟩
  refine hK.out _ _ hH0 (fun hH1 => ?_)
  clear hK K
  try simp only [Act.put, List.setIfInBounds_toArray, List.set_cons_zero, List.set_cons_succ]
  refine wpAnyH_take (i := 18) (v := ?_) rfl (by kernel_rfl) (by kernel_rfl) (by kernel_rfl) (fun _ _ _ h => h) (Or.inl ⟨by kernel_rfl, ?_⟩) hH0 ?_
  rotate_left
  · intro w hSw
    try dsimp only at hSw
    go_simp
    try (with_reducible rfl)
  try simp only [Act.put, List.setIfInBounds_toArray, List.set_cons_zero, List.set_cons_succ]
  have k0 := cell_of_row W1 w.heap.size 0 _ _ _ HB.out
  have k1 := cell_of_row W1 w.heap.size 1 _ _ _ HB.out
  have k2 := cell_of_row W1 w.heap.size 2 _ _ _ HB.out
  have k3 := cell_of_row W1 w.heap.size 3 _ _ _ HB.out
  simp only [List.getElem?_toArray, List.getElem?_cons_zero, List.getElem?_cons_succ] at k0 k1 k2 k3
  have f0 := frozen_of_row W1 w.heap.size 0 _ _ HB.out
  have f1 := frozen_of_row W1 w.heap.size 1 _ _ HB.out
  have f2 := frozen_of_row W1 w.heap.size 2 _ _ HB.out
  have f3 := frozen_of_row W1 w.heap.size 3 _ _ HB.out
  refine wpAnyH_ready (rs := [19]) (by kernel_rfl) (by simp) ?_
  refine AllReadyH.cons rfl (fun K hK => ?_) AllReadyH.nil
  go_simp
  generalize (shortL s.loc).length = n4 at *
  have hP : ∀ k, k ≠ w.heap.size → (put4 W1 w.heap.size (.bool (!o)) (.slice A n1 cA) (.slice N n2 cN) (.slice L n4 d)).drew.heap[k]? = W1.heap[k]? := fun k hk => put4_other W1 _ _ _ _ _ _ hk
  have hne : h ≠ w.heap.size := by have := HHS.out; omega
  have hH3 : (put4 W1 w.heap.size (.bool (!o)) (.slice A n1 cA) (.slice N n2 cN) (.slice L n4 d)).drew.cell? ⟨h, 2, none⟩ = some (.bool o) ∧ (put4 W1 w.heap.size (.bool (!o)) (.slice A n1 cA) (.slice N n2 cN) (.slice L n4 d)).drew.cell? ⟨h, 3, none⟩ = some (.slice A n1 cA) ∧
      (put4 W1 w.heap.size (.bool (!o)) (.slice A n1 cA) (.slice N n2 cN) (.slice L n4 d)).drew.cell? ⟨h, 4, none⟩ = some (.slice N n2 cN) ∧ (put4 W1 w.heap.size (.bool (!o)) (.slice A n1 cA) (.slice N n2 cN) (.slice L n4 d)).drew.cell? ⟨h, 5, none⟩ = some (.slice L n3 cL) :=
    ⟨(tcell (hP h hne)).trans hH0.1, (tcell (hP h hne)).trans hH0.2.1, (tcell (hP h hne)).trans hH0.2.2.1, (tcell (hP h hne)).trans hH0.2.2.2⟩
  have HUE := Lib.hid (show Up w (put4 W1 w.heap.size (.bool (!o)) (.slice A n1 cA) (.slice N n2 cN) (.slice L n4 d)).drew from (Below.trans (B := w.heap.size) (show Below w.heap.size w W1 from HU0.out) (put4_below W1 w.heap.size w.heap.size _ _ _ _ (Nat.le_refl _))).drew)
  have HPS := Lib.hid (put4_same (.bool (!o)) (.slice A n1 cA) (.slice N n2 cN) (.slice L n4 d) HB.out)
  refine hK.out _ _ hH3 (fun hH4 => ?_)
  clear hK K
  try simp only [Act.put, List.setIfInBounds_toArray, List.set_cons_zero, List.set_cons_succ]
  refine wpAnyH_done (by kernel_rfl) ?_ _
  clear hH3 hH4 hH0 hH1 hP k0 k1 k2 k3 f0 f1 f2 f3
  unfold put4 at HUE HPS
  have HPS2 : Hid (((((W1.setCell ⟨w.heap.size, 0, none⟩ (.bool (!o))).setCell ⟨w.heap.size, 1, none⟩ (.slice A n1 cA)).setCell ⟨w.heap.size, 2, none⟩ (.slice N n2 cN)).setCell ⟨w.heap.size, 3, none⟩ (.slice L n4 d)).drew.heap[w.heap.size]? = some (.cells #[.bool (!o), .slice A n1 cA, .slice N n2 cN, .slice L n4 d] 29 (0, 0))) := HPS
  clear HPS
  generalize ((((W1.setCell ⟨w.heap.size, 0, none⟩ (.bool (!o))).setCell ⟨w.heap.size, 1, none⟩ (.slice A n1 cA)).setCell ⟨w.heap.size, 2, none⟩ (.slice N n2 cN)).setCell ⟨w.heap.size, 3, none⟩ (.slice L n4 d)).drew = W2 at *
  have m0 := cell_of_row W2 w.heap.size 0 _ _ _ HPS2.out
  have m1 := cell_of_row W2 w.heap.size 1 _ _ _ HPS2.out
  have m2 := cell_of_row W2 w.heap.size 2 _ _ _ HPS2.out
  have m3 := cell_of_row W2 w.heap.size 3 _ _ _ HPS2.out
  simp only [List.getElem?_toArray, List.getElem?_cons_zero, List.getElem?_cons_succ] at m0 m1 m2 m3
  go_wp2_with fail
  refine bodyPost_ret (v := .agg #[.bool (!o), .slice A n1 cA, .slice N n2 cN, .slice L n4 d]) (by simp [results, Try.results21, go_sem, m0, m1, m2, m3]) rfl ?_
  exact ⟨_, rfl, HF.out W2 d HUE.out, HUE.out⟩

end Go.Proofs.Ytpandnodeldbjaa
