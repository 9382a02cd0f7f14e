/-
  The document's Same: two lists of operations.
-/
import Derived.Test.YtpefcbmmbpcalaaOpd
import Derived.Laws.StructEq
import Derived.BigQuiet
set_option linter.unusedVariables false
set_option linter.unusedSimpArgs false
namespace Go.Proofs.Ytpefcbmmbpcalaa
open Go.RowKit

def eqO (a b : OpD) : Bool := (a.frm == b.frm) && ((a.to == b.to) && ((a.wr == b.wr) && ((a.val == b.val) && (a.thr == b.thr))))
theorem eqO_is {a b : OpD} : eqO a b = true ↔ a = b := by
  obtain ⟨a0, a1, a2, a3, a4⟩ := a
  obtain ⟨b0, b1, b2, b3, b4⟩ := b
  simp [eqO]
def sameK (l m : List OpD) (k : Nat) : Bool := (List.range k).all fun i => eqO (l.getD i op0) (m.getD i op0)
theorem sameK_no {l m : List OpD} {k n : Nat} (hk : k < n) (h : eqO (l.getD k op0) (m.getD k op0) = false) : sameK l m n = false := by
  unfold sameK
  rw [List.all_eq_false]
  exact ⟨k, List.mem_range.2 hk, by rw [h]; simp⟩

theorem neq_is (a b : OpD) (w : World) : (binOp .neq 24 (oagg a) (oagg b)).run Try.prog w = .ok (.bool (!eqO a b)) w := by
  obtain ⟨a0, a1, a2, a3, a4⟩ := a
  obtain ⟨b0, b1, b2, b3, b4⟩ := b
  unfold oagg eqO
  dsimp only
  cases h0 : (a0 == b0)
  · go_simp
  · cases h1 : (a1 == b1)
    · go_simp
    · cases h2 : (a2 == b2)
      · go_simp
      · cases h3 : (a3 == b3)
        · go_simp
        · cases h4 : (a4 == b4)
          · go_simp
          · go_simp

theorem sameK_succ (l m : List OpD) (k : Nat) : sameK l m (k + 1) = (sameK l m k && eqO (l.getD k op0) (m.getD k op0)) := by
  unfold sameK
  rw [List.range_succ, List.all_append]
  simp
def sameL (l m : List OpD) : Bool := (l.length == m.length) && sameK l m l.length

set_option maxRecDepth 10000 in
set_option maxHeartbeats 1000000 in
theorem rsame_any (l m : List OpD) (A B : Option Addr) (c d : Nat) (w : World) (hl : l.length ≤ 9223372036854775807) (hm : m.length ≤ 9223372036854775807) (hr : OpRow w A l) (hq : OpRow w B m) :
    Calls Try.prog 18 #[.slice A l.length c, .slice B m.length d] w fun e w' => e = .returned (.bool (sameL l m)) ∧ Up w w' := by
  have HSL : Hid (sameL l m = ((l.length == m.length) && sameK l m l.length)) := Lib.hid rfl
  by_cases he : l.length = m.length
  · have HN : Hid (sameL l m = sameK l m l.length) := Lib.hid (by rw [HSL.out, he, beq_self_eq_true, Bool.true_and])
    have HNO := Lib.hid (fun k h1 h2 => sameK_no (l := l) (m := m) (k := k) (n := l.length) h1 h2)
    have HSS := Lib.hid (sameK_succ l m)
    have HS0 : Hid (sameK l m 0 = true) := Lib.hid rfl
    have HR := Lib.hid hr
    have HQ := Lib.hid (fun k (hk : k < l.length) => hq k (he ▸ hk))
    have hli : (l.length : Int) ≤ 9223372036854775807 := by omega
    rw [← he]
    clear hr hq he hl hm HSL
    generalize sameL l m = sm at *
    go_enter Try.func18, Try.ntmps18
    go_wp2_with fail
    go_loopw [5] (fun x wr => ∃ k : Nat, k ≤ l.length ∧ x = .int .i64 k ∧ Hid (sameK l m k = true) ∧ Hid (Up w wr)) (fun x _ => l.length - (intOf x).toNat)
    case atStart => exact ⟨0, by omega, rfl, HS0, Lib.hid (Up.refl _)⟩
    case round =>
      obtain ⟨k, hk, rfl, HK, HV⟩ := hrel
      by_cases hlt : k < l.length
      · have hki : (k : Int) < l.length := by omega
        have hk0 : (0 : Int) ≤ k := by omega
        obtain ⟨b1, f1, rfl, x0, x1, x2, x3, x4⟩ := HR.out.up HV.out k hlt
        obtain ⟨b2, f2, rfl, y0, y1, y2, y3, y4⟩ := HQ.out k hlt
        have HK2 : Hid (eqO (l.getD k op0) (m.getD k op0) = true → sameK l m (k + 1) = true) := Lib.hid (fun h => by rw [HSS.out, HK.out, h]; rfl)
        have HN2 : Hid (eqO (l.getD k op0) (m.getD k op0) = false → sm = false) := Lib.hid (fun h => by rw [HN.out]; exact HNO.out k hlt h)
        have z0 := (HV.out.cell (cell_lt y0)).trans y0
        have z1 := (HV.out.cell (cell_lt y1)).trans y1
        have z2 := (HV.out.cell (cell_lt y2)).trans y2
        have z3 := (HV.out.cell (cell_lt y3)).trans y3
        have z4 := (HV.out.cell (cell_lt y4)).trans y4
        have hne := neq_is (l.getD k op0) (m.getD k op0)
        unfold oagg at hne
        clear y0 y1 y2 y3 y4
        generalize eqO (l.getD k op0) (m.getD k op0) = eq at *
        generalize l.getD k op0 = p at *
        generalize m.getD k op0 = q at *
        obtain ⟨PF, PT, PW, PV, PH⟩ := p
        obtain ⟨QF, QT, QW, QV, QH⟩ := q
        dsimp only at x0 x1 x2 x3 x4 z0 z1 z2 z3 z4 hne
        cases eq
        · have HF := Lib.hid (HN2.out rfl)
          clear HK2 HN2
          go_wp2_with fail
          go_quiet (fail)
          go_wp2_with fail
          go_ret
          exact ⟨by rw [HF.out]; rfl, below_drewN HV.out _⟩
        · have HT := Lib.hid (HK2.out rfl)
          clear HK2 HN2
          go_wp2_with fail
          go_quiet (fail)
          go_wp2_with fail
          go_roundw
          case rel => exact ⟨k + 1, by omega, by go_num, HT, Lib.hid (below_drewN HV.out _)⟩
          case measure => simp [intOf]; omega
      · obtain rfl : k = l.length := by omega
        clear hlt
        go_wp2_with fail
        go_ret
        exact ⟨by rw [HN.out, HK.out]; rfl, HV.out⟩
  · have HN : Hid (sameL l m = false) := Lib.hid (by rw [HSL.out, beq_eq_false_iff_ne.2 he]; rfl)
    have hnb : ((l.length : Int) != (m.length : Int)) = true := by rw [bne_iff_ne]; omega
    clear hr hq he HSL
    generalize sameL l m = sm at *
    go_enter Try.func18, Try.ntmps18
    go_wp2_with fail
    go_ret
    exact ⟨by rw [HN.out]; rfl, Up.refl _⟩

end Go.Proofs.Ytpefcbmmbpcalaa
