/-
  The walk of TapePlays.
-/
import Derived.Test.YtpandnodeldbjaaActs
import Derived.Test.YtpandnodeldbjaaAlive10
set_option linter.unusedVariables false
set_option linter.unusedSimpArgs false
namespace Go.Proofs.Ytpandnodeldbjaa
open Go.RowKit

theorem tameL_len (l : List Int) (top : Int) : (tameL l top).length = l.length := by simp [tameL]

theorem cl_any (l : List Act3) (A : Option Addr) (c g B p : Nat) (s : TS) (W : World) (hp : W.heap[p]? = some (.cells #[.slice A l.length c] 22 (0, 0)))
    (h : Tape1 W g B s) (hl : l.length ≤ 100) (hn : s.nts = []) (hr : ActRow W A l) (hlow : ∀ b off, A = some ⟨b, off, none⟩ → 0 < l.length → b < g) (hk : ∀ a ∈ l, 0 ≤ a.1 ∧ a.1 ≤ 255) :
    Calls Try.prog 16 #[.pointer (some ⟨g, 0, none⟩), .pointer (some ⟨p, 0, none⟩)] W (TPost encI g B W (doP l 0 s)) := by
  have HD := Lib.hid (do_any l A c g B s W h hl hn hr hlow hk)
  obtain ⟨r, hr'⟩ : ∃ r, doP l 0 s = r := ⟨_, rfl⟩
  rw [hr'] at HD ⊢
  have hq0 := cell_of_row W p 0 _ _ _ hp
  simp only [List.getElem?_toArray, List.getElem?_cons_zero] at hq0
  clear h hr hlow hk hr' hp hn hl
  go_enter Try.func16, Try.ntmps16
  go_wp2_with fail
  refine HD.out.mono ?_
  intro e w' hT
  obtain ⟨ro, s'⟩ := r
  cases ro with
  | none =>
    obtain ⟨rfl, hT1, hT2⟩ := TPost.of_none rfl hT
    go_wp2_with fail
    exact ⟨rfl, TPost.none rfl ⟨rfl, hT1, hT2⟩⟩
  | some v =>
    obtain ⟨rfl, hT1, hT2⟩ := TPost.of_some rfl hT
    have H1 := Lib.hid hT1
    have H2 := Lib.hid hT2
    clear hT hT1 hT2 hq0 HD
    go_wp2_with fail
    go_ret
    exact TPost.some rfl ⟨rfl, H1.out, H2.out⟩

/-- A tape of acts, played: the program's side. -/
theorem play_acts (l : List Act3) (loc ans : List Int) (A A0 A1 : Option Addr) (c c0 c1 p : Nat) (w : World) (hp : w.heap[p]? = some (.cells #[.slice A l.length c] 22 (0, 0)))
    (hl : l.length ≤ 100) (hr : ActRow w A l) (hk : ∀ a ∈ l, 0 ≤ a.1 ∧ a.1 ≤ 255) (hA0 : A0 = none → c0 = 0) (hl0 : loc.length ≤ 3000) (hl1 : ans.length ≤ 3000)
    (hr0 : Row w A0 loc.length (IVal loc)) (hr1 : Row w A1 ans.length (IVal ans)) (hc0 : loc.length ≤ c0) :
    Calls Try.prog 15 #[.func (.func 16) #[] #[.pointer (some ⟨p, 0, none⟩)], .slice A0 loc.length c0, .slice A1 ans.length c1] w fun e w' =>
      ∃ ov, e = .returned (.tuple #[.int .i64 ((doP l 0 ⟨ans, loc, [], []⟩).1.getD 0), ov]) ∧ OutIs w' ov (doP l 0 ⟨ans, loc, [], []⟩).1.isSome (doP l 0 ⟨ans, loc, [], []⟩).2 ∧ Up w w' :=
  playI 16 #[.pointer (some ⟨p, 0, none⟩)] (doP l 0) loc ans A0 A1 c0 c1 w hA0 hl0 hl1 hr0 hr1 hc0 (fun args W => enters Try.func16 (by kernel_rfl) rfl args W)
    (fun W g B hU hg h => cl_any l A c g B p _ W ((hU.block p (Array.getElem?_eq_some_iff.1 hp).1).trans hp) h hl rfl (hr.up hU) (fun b off e h0 => by
      obtain ⟨b', off', e', h1, _⟩ := hr 0 h0
      rw [e] at e'
      simp only [Option.some.injEq, Addr.mk.injEq] at e'
      have := cell_lt h1
      omega) hk)

/-- An outcome's rows in numbers that fit. -/
theorem acts_len (l : List Act3) (loc ans : List Int) (hl : l.length ≤ 100) (hl0 : loc.length ≤ 3000) : (doP l 0 ⟨ans, loc, [], []⟩).2.acc.length ≤ 1000000000 ∧ (doP l 0 ⟨ans, loc, [], []⟩).2.nts.length ≤ 1000000000 ∧ (shortL (doP l 0 ⟨ans, loc, [], []⟩).2.loc).length ≤ 1000000000 := by
  obtain ⟨h1, h2, h3⟩ := doP_len l 0 ⟨ans, loc, [], []⟩
  have h4 := shortLen_le (doP l 0 ⟨ans, loc, [], []⟩).2.loc (doP l 0 ⟨ans, loc, [], []⟩).2.loc.length
  rw [← shortL_length] at h4
  simp only [List.length_nil] at h1 h2 h3
  exact ⟨by omega, by omega, by omega⟩

/-- Two outcomes that are the same: the document's Same says so. -/
theorem same_out {w : World} {va vb : Value} {da db : Bool} {s t : TS} (ha : OutR w va da s) (hb : OutR w vb db t) (hs : sameB da db s.acc t.acc s.nts t.nts (shortL s.loc) (shortL t.loc) = true)
    (h1 : s.acc.length ≤ 1000000000) (h2 : s.nts.length ≤ 1000000000) (h3 : (shortL s.loc).length ≤ 1000000000) :
    Calls Try.prog 20 #[va, vb] w fun e w' => e = .returned (.bool true) ∧ Up w w' := by
  obtain ⟨A1, c1, A2, c2, A3, c3, rfl, a1, a2, a3⟩ := ha
  obtain ⟨B1, d1, B2, d2, B3, d3, rfl, b1, b2, b3⟩ := hb
  have hq := of_decide_eq_true hs
  have := same_any da db s.acc t.acc s.nts t.nts (shortL s.loc) (shortL t.loc) A1 A2 A3 B1 B2 B3 c1 c2 c3 d1 d2 d3 w a1 a2 a3 b1 b2 b3 h1 h2 h3 (by rw [← hq.2.2.2]; exact h3)
  rw [hs] at this
  exact this

theorem Up.trans' {a b c : World} (h : Up a b) (k : Below a.heap.size b c) : Up a c := Below.trans h k
theorem row_shortL {w : World} {A : Option Addr} {l : List Int} (h : Row w A l.length (IVal l)) : Row w A (shortL l).length (IVal (shortL l)) := by
  rw [shortL_length]
  show Row w A (shortLen l l.length) (IVal (l.take (shortLen l l.length)))
  exact row_takeI h (shortLen_le _ _)
theorem own_IVal {w : World} {B : Nat} {A : Option Addr} {c : Nat} {l : List Int} (h : w.ownsRow B 3 1 (.slice A l.length c) l.length (icells l)) : Row w A l.length (IVal l) := by
  obtain ⟨A', c', e, hr⟩ := own_row h (f := IVal l) (fun k hk => iVal_map hk)
  cases e
  exact hr.1

set_option maxRecDepth 10000 in
set_option maxHeartbeats 400000 in
theorem tapePlays_any (l : List Act3) (loc ans : List Int) (A A0 A1 : Option Addr) (c c0 c1 : Nat) (w : World) (hr : ActRow w A l) (hk : ∀ a ∈ l, 0 ≤ a.1 ∧ a.1 ≤ 255) (hA : l.length ≤ 9223372036854775807) (hB : loc.length ≤ 9223372036854775807) (hC : ans.length ≤ 9223372036854775807)
    (hr0 : Row w A0 loc.length (IVal loc)) (hr1 : Row w A1 ans.length (IVal ans)) :
    Calls Try.prog 3 #[.slice A l.length c, .slice A0 loc.length c0, .slice A1 ans.length c1] w fun e w' => e = .returned (.bool true) ∧ Up w w' := by
  have HAL := Lib.hid (fun W : World => alive10_any W)
  by_cases hs : l.length ≤ 100 ∧ loc.length ≤ 100 ∧ ans.length ≤ 100
  · obtain ⟨hs1, hs2, hs3⟩ := hs
    have HT0 := Lib.hid (fun (W : World) (hr : Row W A0 loc.length (IVal loc)) => tame_any loc A0 c0 2199023255552 W (by omega) hr)
    have HT1 := Lib.hid (fun (W : World) (hr : Row W A1 ans.length (IVal ans)) => tame_any ans A1 c1 2199023255552 W (by omega) hr)
    have HR := Lib.hid hr
    have HR0 := Lib.hid hr0
    have HR1 := Lib.hid hr1
    have HK := Lib.hid hk
    have il : (l.length : Int) ≤ 100 := by omega
    have i0 : (loc.length : Int) ≤ 100 := by omega
    have i1 : (ans.length : Int) ≤ 100 := by omega
    clear hr hr0 hr1 hk
    go_enter Try.func3, Try.ntmps3
    have hb0 := heap_alloc_new w (.cells #[.slice A l.length c] 22)
    have hq0 := cell_of_row _ _ 0 _ _ _ hb0
    simp only [List.getElem?_toArray, List.getElem?_cons_zero] at hq0
    go_wp2_with fail
    refine (HT0.out _ (HR0.out.up ((Up.refl w).alloc _))).mono ?_
    rintro e w1 ⟨B0, d0, rfl, r0, hd0, hn0, hU1⟩
    have HB1 := Lib.hid ((hU1.block _ (Array.getElem?_eq_some_iff.1 hb0).1).trans hb0)
    have HU1 := Lib.hid (((Up.refl w).alloc _).trans hU1)
    obtain ⟨loc', hloc⟩ : ∃ x, tameL loc 2199023255552 = x := ⟨_, rfl⟩
    have hll : loc'.length = loc.length := by rw [← hloc, tameL_len]
    rw [hloc] at r0
    have HD0 := Lib.hid (show Row w1 B0 loc.length (IVal loc') ∧ loc.length ≤ d0 ∧ (B0 = none → d0 = 0) from ⟨r0, hd0, hn0⟩)
    clear hq0 hb0 hU1 r0 hd0 hn0 HT0 hloc
    go_wp2_with fail
    refine (HT1.out _ (HR1.out.up HU1.out)).mono ?_
    rintro e w2 ⟨B1, d1, rfl, r1, hd1, hn1, hU2⟩
    have hb2 := (hU2.block _ (Array.getElem?_eq_some_iff.1 HB1.out).1).trans HB1.out
    have hq2 := cell_of_row w2 _ 0 _ _ _ hb2
    simp only [List.getElem?_toArray, List.getElem?_cons_zero] at hq2
    obtain ⟨ans', hans⟩ : ∃ x, tameL ans 2199023255552 = x := ⟨_, rfl⟩
    have hla : ans'.length = ans.length := by rw [← hans, tameL_len]
    rw [hans] at r1
    have HD1 := Lib.hid (show Row w2 B0 loc'.length (IVal loc') ∧ Row w2 B1 ans'.length (IVal ans') from ⟨hll ▸ HD0.out.1.up hU2, hla ▸ r1⟩)
    have HU2 := Lib.hid (HU1.out.trans hU2)
    have HP := Lib.hid (play_acts l loc' ans' A B0 B1 c d0 d1 w.heap.size w2 hb2 hs1 (HR.out.up HU2.out) HK.out HD0.out.2.2 (by omega) (by omega) HD1.out.1 HD1.out.2 (by rw [hll]; exact HD0.out.2.1))
    have HL := Lib.hid (acts_len l loc' ans' hs1 (by omega))
    have HM := Lib.hid (meets_same (do_meets l 0 ⟨ans', loc', [], []⟩ ⟨⟨ans', loc', [], []⟩, false⟩ ⟨rfl, rfl, rfl, fun _ => rfl⟩ rfl))
    have HB2 := Lib.hid hb2
    have HNW := Lib.hid (fun (W : World) (hU : Up w2 W) => newR_any loc' ans' B0 B1 d0 d1 W HD0.out.2.2 (by omega) (by omega) (HD1.out.1.up hU) (HD1.out.2.up hU))
    have HSH := Lib.hid (fun (W : World) (hU : Up w2 W) => short_any loc' B0 d0 W HD0.out.2.2 (HD1.out.1.up hU) (by omega) (by rw [hll]; exact HD0.out.2.1))
    have HRS := Lib.hid (fun (W : World) (hU : Up w2 W) => rshort_any loc' B0 d0 W (HD1.out.1.up hU) (by omega) (by rw [hll]; exact HD0.out.2.1))
    have HSL := Lib.hid (show (shortL loc').length ≤ loc'.length by rw [shortL_length]; exact shortLen_le _ _)
    have HRDO := Lib.hid (fun (W : World) (g B : Nat) (hU : Up w W) (hB : w.heap.size ≤ B) (R : RefIs W g B ⟨⟨ans', loc', [], []⟩, false⟩) => rdo_any l A c g B _ W R hs1 rfl (HR.out.up hU) (fun b off e h0 => by
      obtain ⟨b', off', e', h1, _⟩ := HR.out 0 h0
      rw [e] at e'
      simp only [Option.some.injEq, Addr.mk.injEq] at e'
      have := cell_lt h1
      omega) HK.out)
    rw [hll, hla] at HP HNW
    rw [hll] at HSH HRS HSL
    obtain ⟨P, hP⟩ : ∃ x, doP l 0 ⟨ans', loc', [], []⟩ = x := ⟨_, rfl⟩
    obtain ⟨R, hR⟩ : ∃ x, rdoP l 0 ⟨⟨ans', loc', [], []⟩, false⟩ = x := ⟨_, rfl⟩
    rw [hP] at HP HL HM
    rw [hR] at HM HRDO
    rw [← HM.out.1] at HRDO
    obtain ⟨v, hv⟩ : ∃ x, P.1.getD 0 = x := ⟨_, rfl⟩
    rw [hv] at HP HRDO
    have HM2 := Lib.hid HM.out.2
    clear hU2 hb2 r1 hd1 hn1 HT1 hans hP hR hv HM HD0 HB1 HU1 HR0 HR1 HR HK
    go_wp2_with fail
    refine HP.out.mono ?_
    rintro e w3 ⟨ov, rfl, hout, hU3⟩
    have HO3 := Lib.hid hout.r
    have HB3 := Lib.hid ((hU3.block _ (Array.getElem?_eq_some_iff.1 HB2.out).1).trans HB2.out)
    have HU3 := Lib.hid hU3
    obtain ⟨X, cX, N, cN, L, cL, rfl, _⟩ := hout
    clear hU3 HP HB2 hq2
    go_wp2_with fail
    have hbo := heap_alloc_new w3 (.cells #[.bool P.fst.isSome, .slice X P.snd.acc.length cX, .slice N P.snd.nts.length cN, .slice L (shortL P.snd.loc).length cL] 29)
    have hUo : Up w3 (w3.alloc (.cells #[.bool P.fst.isSome, .slice X P.snd.acc.length cX, .slice N P.snd.nts.length cN, .slice L (shortL P.snd.loc).length cL] 29)) := (Up.refl w3).alloc _
    obtain ⟨q, hq⟩ : ∃ q, w3.heap.size = q := ⟨_, rfl⟩
    rw [hq] at hbo ⊢
    generalize w3.alloc (.cells #[.bool P.fst.isSome, .slice X P.snd.acc.length cX, .slice N P.snd.nts.length cN, .slice L (shortL P.snd.loc).length cL] 29) = w4 at *
    have HU4 := Lib.hid (HU3.out.trans hUo)
    have HBO4 := Lib.hid hbo
    have HO4 := Lib.hid (HO3.out.up hUo)
    have HB4 := Lib.hid ((hUo.block _ (Array.getElem?_eq_some_iff.1 HB3.out).1).trans HB3.out)
    clear hbo hUo HO3 HU3 HB3 hq
    refine (HNW.out _ HU4.out).mono ?_
    rintro e w5 ⟨h, rfl, hR5, hU5⟩
    have hb5 := (hU5.block _ (Array.getElem?_eq_some_iff.1 HB4.out).1).trans HB4.out
    have hq5 := cell_of_row w5 _ 0 _ _ _ hb5
    simp only [List.getElem?_toArray, List.getElem?_cons_zero] at hq5
    have HDO := Lib.hid (HRDO.out w5 h w4.heap.size ((HU2.out.trans HU4.out).trans hU5) (HU2.out.trans HU4.out).size hR5)
    have HU5 := Lib.hid hU5
    have HH := Lib.hid hR5.c.hB
    clear hb5 hR5 hU5 HRDO HNW HB4
    go_wp2_with fail
    refine HDO.out.mono ?_
    rintro e w6 ⟨rfl, hR6, hK6⟩
    have hU6 : Up w4 w6 := HU5.out.trans' (hK6.below (Nat.le_refl _) HH.out HU5.out.size)
    have HU6 := Lib.hid hU6
    have HBO6 := Lib.hid ((hU6.block _ (Array.getElem?_eq_some_iff.1 HBO4.out).1).trans HBO4.out)
    have HO6 := Lib.hid (HO4.out.up hU6)
    have HR6 := Lib.hid (rout_any h w4.heap.size R.2 w6.drew (hR6.up (Up.refl w6).drew))
    clear hU6 hR6 hK6 HBO4 HO4 HU5 HDO HH hq5
    have S0 : w6.cell? ⟨q, 0, none⟩ = some (.bool P.fst.isSome) ∧ w6.cell? ⟨q, 1, none⟩ = some (.slice X P.snd.acc.length cX) ∧ w6.cell? ⟨q, 2, none⟩ = some (.slice N P.snd.nts.length cN) ∧ w6.cell? ⟨q, 3, none⟩ = some (.slice L (shortL P.snd.loc).length cL) :=
      ⟨cell_of_row w6 q 0 _ _ _ HBO6.out, cell_of_row w6 q 1 _ _ _ HBO6.out, cell_of_row w6 q 2 _ _ _ HBO6.out, cell_of_row w6 q 3 _ _ _ HBO6.out⟩
    go_wp2_with fail
    have SB := Lib.hid (fun (W : World) (hU : Up w6 W) => show W.cell? ⟨q, 0, none⟩ = some (.bool P.fst.isSome) ∧ W.cell? ⟨q, 1, none⟩ = some (.slice X P.snd.acc.length cX) ∧ W.cell? ⟨q, 2, none⟩ = some (.slice N P.snd.nts.length cN) ∧ W.cell? ⟨q, 3, none⟩ = some (.slice L (shortL P.snd.loc).length cL) from
      have hb := (hU.block _ (Array.getElem?_eq_some_iff.1 HBO6.out).1).trans HBO6.out
      ⟨cell_of_row W q 0 _ _ _ hb, cell_of_row W q 1 _ _ _ hb, cell_of_row W q 2 _ _ _ hb, cell_of_row W q 3 _ _ _ hb⟩)
    clear HBO6
    refine wp_region_held_drew (S := fun w => w.cell? ⟨q, 0, none⟩ = some (.bool P.fst.isSome) ∧ w.cell? ⟨q, 1, none⟩ = some (.slice X P.snd.acc.length cX) ∧ w.cell? ⟨q, 2, none⟩ = some (.slice N P.snd.nts.length cN) ∧ w.cell? ⟨q, 3, none⟩ = some (.slice L (shortL P.snd.loc).length cL)) (by kernel_rfl) S0 (fun hH0 => ?_)
    refine wpAnyH_take (i := 0) (v := ?_) rfl (by kernel_rfl) (by kernel_rfl) (by kernel_rfl) (fun _ _ _ h => h) (Or.inl ⟨by kernel_rfl, ?_⟩) hH0 ?_
    rotate_left
    · intro w hSw
      try dsimp only at hSw
      go_simp
      try (with_reducible rfl)
    try simp only [Act.put, List.setIfInBounds_toArray, List.set_cons_zero, List.set_cons_succ]
    refine wpAnyH_take (i := 1) (v := ?_) rfl (by kernel_rfl) (by kernel_rfl) (by kernel_rfl) (fun _ _ _ h => h) (Or.inl ⟨by kernel_rfl, ?_⟩) hH0 ?_
    rotate_left
    · intro w hSw
      try dsimp only at hSw
      go_simp
      try (with_reducible rfl)
    try simp only [Act.put, List.setIfInBounds_toArray, List.set_cons_zero, List.set_cons_succ]
    refine wpAnyH_take (i := 2) (v := ?_) rfl (by kernel_rfl) (by kernel_rfl) (by kernel_rfl) (fun _ _ _ h => h) (Or.inl ⟨by kernel_rfl, ?_⟩) hH0 ?_
    rotate_left
    · intro w hSw
      try dsimp only at hSw
      go_simp
      try (with_reducible rfl)
    try simp only [Act.put, List.setIfInBounds_toArray, List.set_cons_zero, List.set_cons_succ]
    refine wpAnyH_take (i := 3) (v := ?_) rfl (by kernel_rfl) (by kernel_rfl) (by kernel_rfl) (fun _ _ _ h => h) (Or.inl ⟨by kernel_rfl, ?_⟩) hH0 ?_
    rotate_left
    · intro w hSw
      try dsimp only at hSw
      go_simp
      try (with_reducible rfl)
    try simp only [Act.put, List.setIfInBounds_toArray, List.set_cons_zero, List.set_cons_succ]
    refine wpAnyH_take (i := 4) (v := ?_) rfl (by kernel_rfl) (by kernel_rfl) (by kernel_rfl) (fun _ _ _ h => h) (Or.inl ⟨by kernel_rfl, ?_⟩) hH0 ?_
    rotate_left
    · intro w hSw
      try dsimp only at hSw
      go_simp
      try (with_reducible rfl)
    try simp only [Act.put, List.setIfInBounds_toArray, List.set_cons_zero, List.set_cons_succ]
    refine wpAnyH_take (i := 5) (v := ?_) rfl (by kernel_rfl) (by kernel_rfl) (by kernel_rfl) (fun _ _ _ h => h) (Or.inl ⟨by kernel_rfl, ?_⟩) hH0 ?_
    rotate_left
    · intro w hSw
      try dsimp only at hSw
      go_simp
      try (with_reducible rfl)
    try simp only [Act.put, List.setIfInBounds_toArray, List.set_cons_zero, List.set_cons_succ]
    refine wpAnyH_ready (rs := [6]) (by kernel_rfl) (by simp) ?_
    refine AllReadyH.cons rfl (fun K hK => ?_) AllReadyH.nil
    go_simp
    refine HR6.out.mono ?_
    rintro e w7 ⟨ov2, rfl, hO7, hU7⟩
    have HU7 := Lib.hid ((Up.refl w6).drew.trans hU7)
    have hS7 := SB.out w7 HU7.out
    have HSM := Lib.hid (same_out (HO6.out.up HU7.out) hO7 HM2.out HL.out.1 HL.out.2.1 HL.out.2.2)
    clear hO7 hU7 HO6 HM2 HL HR6 hH0
    refine hK.out _ _ hS7 (fun hH1 => ?_)
    clear hK K
    try simp only [Act.put, List.setIfInBounds_toArray, List.set_cons_zero, List.set_cons_succ]
    refine wpAnyH_ready (rs := [7]) (by kernel_rfl) (by simp) ?_
    refine AllReadyH.cons rfl (fun K hK => ?_) AllReadyH.nil
    go_simp
    refine HSM.out.mono ?_
    rintro e w8 ⟨rfl, hU8⟩
    have HU8 := Lib.hid (HU7.out.trans hU8)
    have hS8 := SB.out w8 HU8.out
    clear hU8 HU7 HSM hH1 hS7
    refine hK.out _ _ hS8 (fun hH2 => ?_)
    clear hK K
    try simp only [Act.put, List.setIfInBounds_toArray, List.set_cons_zero, List.set_cons_succ]
    refine wpAnyH_take (i := 8) (v := ?_) rfl (by kernel_rfl) (by kernel_rfl) (by kernel_rfl) (fun _ _ _ h => h) (Or.inl ⟨by kernel_rfl, ?_⟩) hH2 ?_
    rotate_left
    · intro w hSw
      try dsimp only at hSw
      go_simp
      try (with_reducible rfl)
    try simp only [Act.put, List.setIfInBounds_toArray, List.set_cons_zero, List.set_cons_succ]
    refine wpAnyH_take (i := 9) (v := ?_) rfl (by kernel_rfl) (by kernel_rfl) (by kernel_rfl) (fun _ _ _ h => h) (Or.inl ⟨by kernel_rfl, ?_⟩) hH2 ?_
    rotate_left
    · intro w hSw
      try dsimp only at hSw
      go_simp
      try (with_reducible rfl)
    try simp only [Act.put, List.setIfInBounds_toArray, List.set_cons_zero, List.set_cons_succ]
    refine wpAnyH_take (i := 10) (v := ?_) rfl (by kernel_rfl) (by kernel_rfl) (by kernel_rfl) (fun _ _ _ h => h) (Or.inl ⟨by kernel_rfl, ?_⟩) hH2 ?_
    rotate_left
    · intro w hSw
      try dsimp only at hSw
      go_simp
      try (with_reducible rfl)
    try simp only [Act.put, List.setIfInBounds_toArray, List.set_cons_zero, List.set_cons_succ]
    refine wpAnyH_take (i := 12) (v := ?_) rfl (by kernel_rfl) (by kernel_rfl) (by kernel_rfl) (fun _ _ _ h => h) (Or.inl ⟨by kernel_rfl, ?_⟩) hH2 ?_
    rotate_left
    · intro w hSw
      try dsimp only at hSw
      go_simp
      try (with_reducible rfl)
    try simp only [Act.put, List.setIfInBounds_toArray, List.set_cons_zero, List.set_cons_succ]
    refine wpAnyH_ready (rs := [11]) (by kernel_rfl) (by simp) ?_
    refine AllReadyH.cons rfl (fun K hK => ?_) AllReadyH.nil
    go_simp
    refine (HSH.out _ ((HU4.out.trans HU6.out).trans HU8.out)).mono ?_
    rintro e w9 ⟨sv, rfl, hO9, hU9⟩
    have HU9 := Lib.hid (HU8.out.trans hU9)
    have hS9 := SB.out w9 HU9.out
    obtain ⟨V9, c9, rfl, _, _⟩ := own_form hO9
    have HR9 := Lib.hid (own_IVal hO9)
    clear hU9 HU8 hO9 HSH hH2 hS8
    refine hK.out _ _ hS9 (fun hH3 => ?_)
    clear hK K
    try simp only [Act.put, List.setIfInBounds_toArray, List.set_cons_zero, List.set_cons_succ]
    refine wpAnyH_ready (rs := [13]) (by kernel_rfl) (by simp) ?_
    refine AllReadyH.cons rfl (fun K hK => ?_) AllReadyH.nil
    go_simp
    refine (HRS.out _ ((HU4.out.trans HU6.out).trans HU9.out)).mono ?_
    rintro e w10 ⟨⟨d10, rfl⟩, rfl⟩
    have HIN := Lib.hid (ints_any (shortL loc') (shortL loc') V9 B0 c9 d10 w10 (by have := HSL.out; omega) (by have := HSL.out; omega) HR9.out (row_shortL ((HD1.out.1.up ((HU4.out.trans HU6.out).trans HU9.out)))))
    rw [decide_eq_true rfl] at HIN
    clear HR9 HRS hH3
    refine hK.out _ _ hS9 (fun hH4 => ?_)
    clear hK K
    try simp only [Act.put, List.setIfInBounds_toArray, List.set_cons_zero, List.set_cons_succ]
    refine wpAnyH_ready (rs := [14]) (by kernel_rfl) (by simp) ?_
    refine AllReadyH.cons rfl (fun K hK => ?_) AllReadyH.nil
    go_simp
    refine HIN.out.mono ?_
    rintro e w11 ⟨rfl, hU11⟩
    have HU11 := Lib.hid (HU9.out.trans hU11)
    have hS11 := SB.out w11 HU11.out
    clear hU11 HU9 HIN hH4 hS9
    refine hK.out _ _ hS11 (fun hH5 => ?_)
    clear hK K
    try simp only [Act.put, List.setIfInBounds_toArray, List.set_cons_zero, List.set_cons_succ]
    refine wpAnyH_take (i := 15) (v := ?_) rfl (by kernel_rfl) (by kernel_rfl) (by kernel_rfl) (fun _ _ _ h => h) (Or.inl ⟨by kernel_rfl, ?_⟩) hH5 ?_
    rotate_left
    · intro w hSw
      try dsimp only at hSw
      go_simp
      try (with_reducible rfl)
    try simp only [Act.put, List.setIfInBounds_toArray, List.set_cons_zero, List.set_cons_succ]
    refine wpAnyH_take (i := 16) (v := ?_) rfl (by kernel_rfl) (by kernel_rfl) (by kernel_rfl) (fun _ _ _ h => h) (Or.inl ⟨by kernel_rfl, ?_⟩) hH5 ?_
    rotate_left
    · intro w hSw
      try dsimp only at hSw
      go_simp
      try (with_reducible rfl)
    try simp only [Act.put, List.setIfInBounds_toArray, List.set_cons_zero, List.set_cons_succ]
    refine wpAnyH_ready (rs := [17]) (by kernel_rfl) (by simp) ?_
    refine AllReadyH.cons rfl (fun K hK => ?_) AllReadyH.nil
    go_simp
    refine (HAL.out _).mono ?_
    rintro e w12 ⟨rfl, hU12⟩
    have HU12 := Lib.hid ((((HU2.out.trans HU4.out).trans HU6.out).trans HU11.out).trans hU12)
    have hS12 := SB.out w12 (HU11.out.trans hU12)
    clear hU12 hH5 hS11 HU11
    refine hK.out _ _ hS12 (fun hH6 => ?_)
    clear hK K
    try simp only [Act.put, List.setIfInBounds_toArray, List.set_cons_zero, List.set_cons_succ]
    refine wpAnyH_take (i := 18) (v := ?_) rfl (by kernel_rfl) (by kernel_rfl) (by kernel_rfl) (fun _ _ _ h => h) (Or.inl ⟨by kernel_rfl, ?_⟩) hH6 ?_
    rotate_left
    · intro w hSw
      try dsimp only at hSw
      go_simp
      try (with_reducible rfl)
    try simp only [Act.put, List.setIfInBounds_toArray, List.set_cons_zero, List.set_cons_succ]
    refine wpAnyH_take (i := 19) (v := ?_) rfl (by kernel_rfl) (by kernel_rfl) (by kernel_rfl) (fun _ _ _ h => h) (Or.inl ⟨by kernel_rfl, ?_⟩) hH6 ?_
    rotate_left
    · intro w hSw
      try dsimp only at hSw
      go_simp
      try (with_reducible rfl)
    try simp only [Act.put, List.setIfInBounds_toArray, List.set_cons_zero, List.set_cons_succ]
    refine wpAnyH_done (by kernel_rfl) ?_ _
    simp only [Act.put, List.setIfInBounds_toArray, List.set_cons_zero, List.set_cons_succ, List.getElem_toArray, List.getElem_cons_succ, List.getElem_cons_zero]
    go_wp2_with fail
    go_ret
    exact ⟨rfl, HU12.out⟩
  · skip
    have hdd : (decide ((100 : Int) < (l.length : Int)) || decide ((100 : Int) < (loc.length : Int)) || decide ((100 : Int) < (ans.length : Int))) = true := by
      simp only [Bool.or_eq_true, decide_eq_true_eq]
      omega
    clear hr hr0 hr1 hk hs
    go_enter Try.func3, Try.ntmps3
    have hb0 := heap_alloc_new w (.cells #[.slice A l.length c] 22)
    have hq0 := cell_of_row _ _ 0 _ _ _ hb0
    simp only [List.getElem?_toArray, List.getElem?_cons_zero] at hq0
    have HU := Lib.hid (show Up w (w.alloc (.cells #[.slice A l.length c] 22)) from (Up.refl w).alloc _)
    go_wp2_with fail
    all_goals
      refine (HAL.out _).mono ?_
      rintro e w1 ⟨rfl, hU1⟩
      have HU1 := Lib.hid (HU.out.trans hU1)
      clear hU1 HU HAL hq0 hb0
      go_wp2_with fail
      go_ret
      exact ⟨rfl, HU1.out⟩

end Go.Proofs.Ytpandnodeldbjaa
