/-
  The document's cell in memory; Find and Busy.
-/
import Derived.Test.YtpapcheliohacaaDocP
import Derived.Test.YtpapcheliohacaaRefN
set_option linter.unusedVariables false
set_option linter.unusedSimpArgs false
namespace Go.Proofs.Ytpapcheliohacaa
open Go.RowKit

def dcell (a : DA) : List Value := [.int .i64 a.t, .int .i64 a.k, .int .i64 a.cl, .int .i64 a.v, .int .i64 a.from_, .int .i64 a.to, .int .i64 a.was]
def dcells (L : List DA) : List Value := L.flatMap dcell
theorem dcells_len (L : List DA) : (dcells L).length = L.length * 7 := by
  induction L with
  | nil => rfl
  | cons a l ih =>
    have e : dcells (a :: l) = dcell a ++ dcells l := rfl
    rw [e, List.length_append, ih]
    simp [dcell]
    omega
theorem dcells_at (L : List DA) : ∀ k, k < L.length → ∀ j, j < 7 → (dcells L)[k * 7 + j]? = (dcell (L.getD k da0))[j]? := by
  induction L with
  | nil => intro k hk; simp at hk
  | cons a l ih =>
    intro k hk j hj
    have e : dcells (a :: l) = dcell a ++ dcells l := rfl
    have e7 : (dcell a).length = 7 := rfl
    rw [e]
    cases k with
    | zero =>
      rw [Nat.zero_mul, Nat.zero_add, List.getElem?_append_left (by omega)]
      rfl
    | succ k =>
      rw [List.getElem?_append_right (by omega), e7, show (k + 1) * 7 + j - 7 = k * 7 + j by omega]
      exact ih k (by simpa using hk) j hj
theorem dcells_append (L : List DA) (a : DA) : dcells (L ++ [a]) = dcells L ++ dcell a := by simp [dcells]
/-- The document's cell at block r; Lv: its list. -/
structure DocIs (w : World) (r B : Nat) (D : DS) (Lv : Value) : Prop where
  k0 : w.cell? ⟨r, 0, none⟩ = some (.int .i64 D.kind)
  k1 : w.cell? ⟨r, 1, none⟩ = some (.int .i64 D.top)
  k2 : w.cell? ⟨r, 2, none⟩ = some (.int .i64 D.value)
  k3 : w.cell? ⟨r, 3, none⟩ = some (.int .i64 D.now)
  k4 : w.cell? ⟨r, 4, none⟩ = some Lv
  fz : ∀ j, w.frozen? ⟨r, j, none⟩ = false
  own : w.ownsRow B 71 7 Lv D.L.length (dcells D.L)
  apart : Lv.ownBlock ≠ some r
  ge : B ≤ r
/-- The list, element by element. -/
def DRow (w : World) (A : Option Addr) (L : List DA) : Prop := ∀ k, k < L.length → ∃ b, A = some ⟨b, 0, none⟩ ∧ w.cell? ⟨b, k * 7, none⟩ = some (.int .i64 (L.getD k da0).t) ∧ w.cell? ⟨b, k * 7 + 1, none⟩ = some (.int .i64 (L.getD k da0).k) ∧ w.cell? ⟨b, k * 7 + 2, none⟩ = some (.int .i64 (L.getD k da0).cl) ∧
  w.cell? ⟨b, k * 7 + 3, none⟩ = some (.int .i64 (L.getD k da0).v) ∧ w.cell? ⟨b, k * 7 + 4, none⟩ = some (.int .i64 (L.getD k da0).from_) ∧ w.cell? ⟨b, k * 7 + 5, none⟩ = some (.int .i64 (L.getD k da0).to) ∧ w.cell? ⟨b, k * 7 + 6, none⟩ = some (.int .i64 (L.getD k da0).was)
theorem DRow.up {w w' : World} {A : Option Addr} {L : List DA} (h : DRow w A L) (u : Up w w') : DRow w' A L := fun k hk => by
  obtain ⟨b, e, h0, h1, h2, h3, h4, h5, h6⟩ := h k hk
  have cc : ∀ j x, w.cell? ⟨b, j, none⟩ = some x → w'.cell? ⟨b, j, none⟩ = some x := fun j x hx => (u.cell (p := ⟨b, j, none⟩) (cell_lt hx)).trans hx
  exact ⟨b, e, cc _ _ h0, cc _ _ h1, cc _ _ h2, cc _ _ h3, cc _ _ h4, cc _ _ h5, cc _ _ h6⟩
theorem DocIs.row {w : World} {r B : Nat} {D : DS} {Lv : Value} (H : DocIs w r B D Lv) : ∃ A c, Lv = .slice A D.L.length c ∧ DRow w A D.L := by
  rcases H.own.2 with ⟨h1, h2⟩ | ⟨g, cap, cur, h1, _⟩
  · refine ⟨none, 0, by rw [h1, h2], fun k hk => ?_⟩
    omega
  · refine ⟨_, cap, h1, fun k hk => ⟨g, rfl, ?_⟩⟩
    have ho := H.own
    rw [h1] at ho
    have c : ∀ j, j < 7 → w.cell? ⟨g, k * 7 + j, none⟩ = (dcell (D.L.getD k da0))[j]? := fun j hj => (ho.cellAt (k * 7 + j) (by omega)).trans (dcells_at D.L k hk j hj)
    exact ⟨c 0 (by decide), c 1 (by decide), c 2 (by decide), c 3 (by decide), c 4 (by decide), c 5 (by decide), c 6 (by decide)⟩
theorem DocIs.lt {w : World} {r B : Nat} {D : DS} {Lv : Value} (H : DocIs w r B D Lv) : r < w.heap.size := cell_lt H.k0
theorem DocIs.up {w w' : World} {r B : Nat} {D : DS} {Lv : Value} (H : DocIs w r B D Lv) (u : Up w w') : DocIs w' r B D Lv := by
  have hb : w'.heap[r]? = w.heap[r]? := u.block r H.lt
  exact ⟨(cellE hb).trans H.k0, (cellE hb).trans H.k1, (cellE hb).trans H.k2, (cellE hb).trans H.k3, (cellE hb).trans H.k4, fun j => (frozenE hb).trans (H.fz j), own_same H.own fun k hk => u.block k (H.own.lt k hk).2, H.apart, H.ge⟩
theorem findZ_drop (L : List DA) (t : Int) (j : Nat) (h : j < L.length) : findZ (L.drop j) t j = if hit t (L.getD j da0) = true then (j : Int) else findZ (L.drop (j + 1)) t (j + 1) := by
  rw [List.drop_eq_getElem_cons h, List.getD_eq_getElem?_getD, List.getElem?_eq_getElem h]
  rfl

set_option maxRecDepth 10000 in
set_option maxHeartbeats 1000000 in
theorem find_any (r B : Nat) (D : DS) (Lv : Value) (t : Int) (w : World) (H : DocIs w r B D Lv) (hL : D.L.length ≤ 1000) :
    Calls Try.prog 33 #[.pointer (some ⟨r, 0, none⟩), .int .i64 t] w fun e w' => e = .returned (.int .i64 (findZ D.L t 0)) ∧ w' = w := by
  obtain ⟨A, cc, rfl, hrow⟩ := H.row
  have k4 := H.k4
  have HR := Lib.hid hrow
  clear H hrow
  go_enter Try.func33, Try.ntmps33
  go_wp2_with fail
  go_loopw [5] (fun u wr => ∃ j : Nat, j ≤ D.L.length ∧ u = .int .i64 j ∧ Hid (findZ D.L t 0 = findZ (D.L.drop j) t j) ∧ wr = w) (fun u _ => D.L.length - (intOf u).toNat)
  case atStart => exact ⟨0, by omega, rfl, Lib.hid rfl, by first | rfl | trivial⟩
  case round =>
    obtain ⟨j, hj, rfl, HF, rfl⟩ := hrel
    by_cases hlt : j < D.L.length
    · have hji : (j : Int) < D.L.length := by omega
      have hj0 : (0 : Int) ≤ j := by omega
      obtain ⟨b, rfl, h0, _, _, _, _, h5, _⟩ := HR.out j hlt
      have hd := findZ_drop D.L t j hlt
      generalize hq : D.L.getD j da0 = a at *
      obtain ⟨at', ak, acl, av, af, ato, aw⟩ := a
      dsimp only at h0 h5
      unfold hit at hd
      dsimp only at hd
      cases e1 : (at' == t)
      · rw [e1] at hd
        have HD := Lib.hid (HF.out.trans (hd.trans (if_neg (by simp))))
        clear hd hq
        go_wp2_with fail
        go_roundw
        case rel => exact ⟨j + 1, by omega, by go_num, Lib.hid HD.out, trivial⟩
        case measure => simp [intOf]; omega
      · cases e2 : decide (ato < 0)
        · rw [e1, e2] at hd
          have HD := Lib.hid (HF.out.trans (hd.trans (if_neg (by simp))))
          clear hd hq
          go_wp2_with fail
          go_roundw
          case rel => exact ⟨j + 1, by omega, by go_num, Lib.hid HD.out, trivial⟩
          case measure => simp [intOf]; omega
        · rw [e1, e2] at hd
          have HD := Lib.hid (HF.out.trans (hd.trans (if_pos (by simp))))
          clear hd hq
          go_wp2_with fail
          go_ret
          exact ⟨by rw [HD.out]; rfl, rfl⟩
    · obtain rfl : j = D.L.length := by omega
      have HD := Lib.hid (HF.out.trans (by rw [List.drop_eq_nil_of_le (Nat.le_refl _)]; rfl : _ = (-1 : Int)))
      clear hlt
      go_wp2_with fail
      go_ret
      exact ⟨by rw [HD.out]; rfl, rfl⟩

theorem busyD_le (D : DS) : ∀ n, busyD D n ≤ n
  | 0 => Nat.le_refl _
  | n + 1 => by
    have := busyD_le D n
    unfold busyD
    split <;> omega
set_option maxRecDepth 10000 in
set_option maxHeartbeats 1000000 in
theorem rbusy_any (r B : Nat) (D : DS) (Lv : Value) (w : World) (H : DocIs w r B D Lv) (hL : D.L.length ≤ 1000) :
    Calls Try.prog 16 #[.pointer (some ⟨r, 0, none⟩)] w fun e w' => e = .returned (.int .i64 (busyD D 8)) ∧ w' = w := by
  have HH := Lib.hid H
  clear H
  go_enter Try.func16, Try.ntmps16
  go_wp2_with fail
  go_loopw [3, 4] (fun u t wr => ∃ k : Nat, k ≤ 8 ∧ u = .int .i64 (busyD D k) ∧ t = .int .i64 k ∧ wr = w) (fun _ t _ => 8 - (intOf t).toNat)
  case atStart => exact ⟨0, by omega, rfl, rfl, by first | rfl | trivial⟩
  case round =>
    obtain ⟨k, hk, rfl, rfl, rfl⟩ := hrel
    by_cases hlt : k < 8
    · have hb := busyD_le D k
      have hs : busyD D (k + 1) = busyD D k + if 0 ≤ findZ D.L (k : Int) 0 then 1 else 0 := rfl
      have HFA := Lib.hid (find_any r B D Lv (k : Int) wr HH.out hL)
      generalize busyD D k = m at *
      have hm : (m : Int) ≤ 8 := by omega
      have hki : (k : Int) < 8 := by omega
      have hm2 : wrap64 ((m : Int) + 1) = (m : Int) + 1 := IntWalk.wrap64_in _ (by omega)
      generalize findZ D.L (k : Int) 0 = z at *
      by_cases hz : 0 ≤ z
      · rw [if_pos hz] at hs
        have HS := Lib.hid hs
        clear hs
        go_wp2_with fail
        refine HFA.out.mono ?_
        rintro e w1 ⟨rfl, rfl⟩
        go_wp2_with fail
        go_roundw
        case rel => exact ⟨k + 1, by omega, by rw [HS.out]; go_num, by go_num, trivial⟩
        case measure => simp [intOf]; omega
      · rw [if_neg hz] at hs
        have HS := Lib.hid hs
        clear hs
        go_wp2_with fail
        refine HFA.out.mono ?_
        rintro e w1 ⟨rfl, rfl⟩
        go_wp2_with fail
        go_roundw
        case rel => exact ⟨k + 1, by omega, by rw [HS.out]; go_num, by go_num, trivial⟩
        case measure => simp [intOf]; omega
    · obtain rfl : k = 8 := by omega
      go_wp2_with fail
      go_ret
      exact ⟨rfl, rfl⟩

end Go.Proofs.Ytpapcheliohacaa
