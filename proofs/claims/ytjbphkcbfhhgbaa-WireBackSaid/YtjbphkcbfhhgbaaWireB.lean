/-
  Package wire: the walks of a Reader's methods, NewReader and Put.
-/
import Derived.Test.YtjbphkcbfhhgbaaWireA
set_option linter.unusedVariables false
set_option linter.unusedSimpArgs false
namespace Go.Proofs.Ytjbphkcbfhhgbaa
open Go.RowKit

theorem blamed_any (g : Nat) (err : Int) (w : World) (hc : w.cell? ⟨g, 0, none⟩ = some (.int .i64 err)) :
    Calls Try.prog 20 #[.pointer (some ⟨g, 0, none⟩)] w fun e w' => e = .returned (.bool (err != 0)) ∧ w = w' := by
  go_enter Try.func20, Try.ntmps20
  go_wp2
  go_ret
  exact ⟨rfl, rfl⟩

theorem blame_first (g : Nat) (e0 : Int) (w : World) (hc : w.cell? ⟨g, 0, none⟩ = some (.int .i64 0)) (hf : w.frozen? ⟨g, 0, none⟩ = false) :
    Calls Try.prog 22 #[.pointer (some ⟨g, 0, none⟩), .int .i64 e0] w fun e w' => e = .returned (.tuple #[]) ∧ w.setCell ⟨g, 0, none⟩ (.int .i64 e0) = w' := by
  go_enter Try.func22, Try.ntmps22
  go_wp2
  go_end0
  exact ⟨rfl, rfl⟩
theorem blame_later (g : Nat) (err e0 : Int) (w : World) (hc : w.cell? ⟨g, 0, none⟩ = some (.int .i64 err)) (hne : (err == 0) = false) :
    Calls Try.prog 22 #[.pointer (some ⟨g, 0, none⟩), .int .i64 e0] w fun e w' => e = .returned (.tuple #[]) ∧ w = w' := by
  go_enter Try.func22, Try.ntmps22
  go_wp2
  go_end0
  exact ⟨rfl, rfl⟩

/-- A Reader in memory: its fault, and the slice that is left. -/
structure Rd (w : World) (g : Nat) (err : Int) (A : Option Addr) (n c : Nat) : Prop where
  c0 : w.cell? ⟨g, 0, none⟩ = some (.int .i64 err)
  c1 : w.cell? ⟨g, 1, none⟩ = some (.slice A n c)
  f0 : w.frozen? ⟨g, 0, none⟩ = false
  f1 : w.frozen? ⟨g, 1, none⟩ = false

theorem err_any (g : Nat) (err : Int) (w : World) (hc : w.cell? ⟨g, 0, none⟩ = some (.int .i64 err)) :
    Calls Try.prog 13 #[.pointer (some ⟨g, 0, none⟩)] w fun e w' => e = .returned (.int .i64 err) ∧ w = w' := by
  go_enter Try.func13, Try.ntmps13
  go_wp2
  go_ret
  exact ⟨rfl, rfl⟩
theorem err_nil (w : World) : Calls Try.prog 13 #[.pointer none] w fun e w' => e = .returned (.int .i64 2) ∧ w = w' := by
  go_enter Try.func13, Try.ntmps13
  go_wp2
  go_ret
  exact ⟨rfl, rfl⟩
theorem left_nil (w : World) : Calls Try.prog 14 #[.pointer none] w fun e w' => e = .returned (.int .i64 0) ∧ w = w' := by
  go_enter Try.func14, Try.ntmps14
  go_wp2
  go_ret
  exact ⟨rfl, rfl⟩
theorem num_nil (m : Int) (w : World) : Calls Try.prog 12 #[.pointer none, .int .i64 m] w fun e w' => e = .returned (.int .i64 0) ∧ w = w' := by
  go_enter Try.func12, Try.ntmps12
  go_wp2
  go_ret
  exact ⟨rfl, rfl⟩
theorem fail_nil (m : Int) (w : World) : Calls Try.prog 15 #[.pointer none, .int .i64 m] w fun e w' => e = .returned (.tuple #[]) ∧ w = w' := by
  go_enter Try.func15, Try.ntmps15
  go_wp2
  first | go_end0 | refine bodyPost_ret (results_none rfl _ _ _) rfl ?_
  exact ⟨rfl, rfl⟩

theorem left_ok (g : Nat) (A : Option Addr) (n c : Nat) (w : World) (hR : Rd w g 0 A n c) :
    Calls Try.prog 14 #[.pointer (some ⟨g, 0, none⟩)] w fun e w' => e = .returned (.int .i64 n) ∧ w = w' := by
  obtain ⟨h0, h1, f0, f1⟩ := hR
  have C := Lib.hid (fun w hc => blamed_any g 0 w hc)
  go_enter Try.func14, Try.ntmps14
  go_wp2_with fail
  refine (C.out _ h0).mono ?_
  rintro e w' ⟨rfl, rfl⟩
  go_wp2_with fail
  go_ret
  exact ⟨rfl, rfl⟩
theorem left_bad (g : Nat) (err : Int) (w : World) (hc : w.cell? ⟨g, 0, none⟩ = some (.int .i64 err)) (hne : (err != 0) = true) :
    Calls Try.prog 14 #[.pointer (some ⟨g, 0, none⟩)] w fun e w' => e = .returned (.int .i64 0) ∧ w = w' := by
  have c := blamed_any g err w hc
  rw [hne] at c
  have C := Lib.hid c
  clear c
  go_enter Try.func14, Try.ntmps14
  go_wp2_with fail
  refine C.out.mono ?_
  rintro e w' ⟨rfl, rfl⟩
  go_wp2_with fail
  go_ret
  exact ⟨rfl, rfl⟩

theorem fail_first (g : Nat) (e0 : Int) (w : World) (hc : w.cell? ⟨g, 0, none⟩ = some (.int .i64 0)) (hf : w.frozen? ⟨g, 0, none⟩ = false) :
    Calls Try.prog 15 #[.pointer (some ⟨g, 0, none⟩), .int .i64 e0] w fun e w' => e = .returned (.tuple #[]) ∧ w.setCell ⟨g, 0, none⟩ (.int .i64 e0) = w' := by
  have C := Lib.hid (blame_first g e0 w hc hf)
  go_enter Try.func15, Try.ntmps15
  go_wp2_with fail
  refine C.out.mono ?_
  rintro e w' ⟨rfl, rfl⟩
  go_wp2_with fail
  go_end0
  exact ⟨rfl, rfl⟩
theorem fail_later (g : Nat) (err e0 : Int) (w : World) (hc : w.cell? ⟨g, 0, none⟩ = some (.int .i64 err)) (hne : (err == 0) = false) :
    Calls Try.prog 15 #[.pointer (some ⟨g, 0, none⟩), .int .i64 e0] w fun e w' => e = .returned (.tuple #[]) ∧ w = w' := by
  have C := Lib.hid (blame_later g err e0 w hc hne)
  go_enter Try.func15, Try.ntmps15
  go_wp2_with fail
  refine C.out.mono ?_
  rintro e w' ⟨rfl, rfl⟩
  go_wp2_with fail
  go_end0
  exact ⟨rfl, rfl⟩

theorem num_bad (g : Nat) (err m : Int) (w : World) (hc : w.cell? ⟨g, 0, none⟩ = some (.int .i64 err)) (hne : (err != 0) = true) :
    Calls Try.prog 12 #[.pointer (some ⟨g, 0, none⟩), .int .i64 m] w fun e w' => e = .returned (.int .i64 0) ∧ w = w' := by
  have c := blamed_any g err w hc
  rw [hne] at c
  have C := Lib.hid c
  clear c
  go_enter Try.func12, Try.ntmps12
  go_wp2_with fail
  refine C.out.mono ?_
  rintro e w' ⟨rfl, rfl⟩
  go_wp2_with fail
  go_ret
  exact ⟨rfl, rfl⟩

/-- A number's fault in all: what the bytes say, and the limits. -/
def errOf (r : Nat × Nat × Nat) (m : Int) : Int := if r.2.2 = 0 then (if m < r.1 then 6 else if 1073741823 < r.1 then 6 else 0) else r.2.2

set_option maxHeartbeats 1000000 in
theorem num_fault (g : Nat) (m : Int) (l : List UInt8) (A : Option Addr) (c : Nat) (w : World) (hR : Rd w g 0 A l.length c) (hm : l.length ≤ 9223372036854775807) (hrow : Row w A l.length (BVal l)) (he : errOf (numL 0 0 l) m ≠ 0) :
    Calls Try.prog 12 #[.pointer (some ⟨g, 0, none⟩), .int .i64 m] w fun e w' => e = .returned (.int .i64 0) ∧ w.setCell ⟨g, 0, none⟩ (.int .i64 (errOf (numL 0 0 l) m)) = w' := by
  obtain ⟨h0, h1, f0, f1⟩ := hR
  have C := Lib.hid (fun w hc => blamed_any g 0 w hc)
  have CN := Lib.hid (number_any l A c w hm hrow)
  have CB := Lib.hid (fun e0 => blame_first g e0 w h0 f0)
  have hmax := numL_max l 0 0 (by decide) (by decide)
  generalize l.length = n at *
  clear hrow
  generalize numL 0 0 l = r at *
  obtain ⟨x, k, f⟩ := r
  unfold errOf at he ⊢
  simp only at he ⊢ hmax CN
  by_cases hf : f = 0
  · subst hf
    simp only [if_true] at he ⊢
    by_cases hmx : m < x
    · rw [if_pos hmx]
      clear he
      go_enter Try.func12, Try.ntmps12
      go_wp2_with fail
      refine (C.out _ h0).mono ?_
      rintro e w' ⟨rfl, rfl⟩
      go_wp2_with fail
      refine CN.out.mono ?_
      rintro e w' ⟨rfl, rfl⟩
      go_wp2_with fail
      refine (CB.out _).mono ?_
      rintro e w' ⟨rfl, rfl⟩
      go_wp2_with fail
      go_ret
      exact ⟨rfl, rfl⟩
    · rw [if_neg hmx] at he ⊢
      by_cases hbx : 1073741823 < x
      · rw [if_pos (by omega)]
        clear he
        go_enter Try.func12, Try.ntmps12
        go_wp2_with fail
        refine (C.out _ h0).mono ?_
        rintro e w' ⟨rfl, rfl⟩
        go_wp2_with fail
        refine CN.out.mono ?_
        rintro e w' ⟨rfl, rfl⟩
        go_wp2_with fail
        refine (CB.out _).mono ?_
        rintro e w' ⟨rfl, rfl⟩
        go_wp2_with fail
        go_ret
        exact ⟨rfl, rfl⟩
      · rw [if_neg (by omega)] at he
        exact absurd rfl he
  · rw [if_neg hf]
    have hne : ((f : Int) == 0) = false := beq_eq_false_iff_ne.2 (by omega)
    have hne2 : ((f : Int) != 0) = true := by rw [bne_iff_ne]; omega
    clear he hf
    go_enter Try.func12, Try.ntmps12
    go_wp2_with fail
    refine (C.out _ h0).mono ?_
    rintro e w' ⟨rfl, rfl⟩
    go_wp2_with fail
    refine CN.out.mono ?_
    rintro e w' ⟨rfl, rfl⟩
    go_wp2_with fail
    refine (CB.out _).mono ?_
    rintro e w' ⟨rfl, rfl⟩
    go_wp2_with fail
    go_ret
    exact ⟨rfl, rfl⟩

end Go.Proofs.Ytjbphkcbfhhgbaa
