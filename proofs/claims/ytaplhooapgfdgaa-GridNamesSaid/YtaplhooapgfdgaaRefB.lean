/-
  The walks of the document's Name, On and Diagonal.
-/
import Derived.Test.YtaplhooapgfdgaaList
import Derived.Deep.QuietTactic
import Derived.BigQuiet
import Derived.Deep.AppendLies
set_option linter.unusedVariables false
set_option linter.unusedSimpArgs false
namespace Go.Proofs.Ytaplhooapgfdgaa
open Go.RowKit

/-- '==' of two points. -/
theorem eqP (a b a' b' : Int) (c c' : Bool) (w : World) : (binOp .eql 25 (.agg #[.int .i64 a, .int .i64 b, .bool c]) (.agg #[.int .i64 a', .int .i64 b', .bool c'])).run Try.prog w = .ok (.bool (a == a' && (b == b' && c == c'))) w := by
  have u3 := Try.underlying3
  have u4 := Try.underlying4
  have hS : Try.prog.underlying 25 = some (.struct (Try.prog.fieldsOf 25)) := by kernel_rfl
  have hp : Try.prog.stoodInHeld 25 = false := by kernel_rfl
  rw [run_eql_struct, show (10000 : Nat) = 9999 + 1 from rfl, run_equalIn_agg w 9999 25 _ _ hS hp]
  simp only [Program.fieldsOf, Try.underlying25]
  go_simp
  by_cases h1 : a = a' <;> by_cases h2 : b = b' <;> cases c <;> cases c' <;> simp [h1, h2]

theorem eqP_guard : Try.prog.eqGuardType Try.prog.depth 25 = false := by kernel_rfl

theorem slice_inj {g g' n n' c c' : Nat} (h : Value.slice (some ⟨g, 0, none⟩) n c = .slice (some ⟨g', 0, none⟩) n' c') : g = g' ∧ c = c' := by
  injection h with h1 _ h3
  injection h1 with h1
  injection h1 with h1
  exact ⟨h1, h3⟩

theorem Pts.cells {w : World} {B m : Nat} {v : Value} (h : Pts w B v m) {d y : Nat} (hy : y ≤ d) (hlt : sizN d + y < m) :
    ∃ g cap, v = .slice (some ⟨g, 0, none⟩) m cap ∧ g < w.heap.size ∧ w.cell? ⟨g, (sizN d + y) * 3, none⟩ = some (.int .i64 ((d : Int) - y)) ∧ w.cell? ⟨g, (sizN d + y) * 3 + 1, none⟩ = some (.int .i64 y) ∧
      w.cell? ⟨g, (sizN d + y) * 3 + 2, none⟩ = some (.bool true) := by
  obtain ⟨xs, hown, hp⟩ := h
  obtain ⟨g, cap, rfl, _, hg⟩ := hown.form (by omega)
  obtain ⟨a, b, c⟩ := hp d y hy hlt
  rw [Nat.mul_comm] at a b c
  refine ⟨g, cap, rfl, hg, ?_, ?_, ?_⟩
  · rw [hown.cellAt _ (by omega), a]
  · rw [hown.cellAt _ (by omega), b]
  · rw [hown.cellAt _ (by omega), c]

/-- The points of the names below i are all unlike this one. -/
def NoneYet (i : Nat) (x y : Int) (ok : Bool) : Prop := ∀ d c : Nat, c ≤ d → sizN d + c < i → ¬ (x = (d : Int) - c ∧ y = c ∧ ok = true)

theorem noneYet_zero (x y : Int) (ok : Bool) : NoneYet 0 x y ok := fun d c _ h => absurd h (by omega)
theorem noneYet_succ {D C : Nat} {x y : Int} {ok : Bool} (hC : C ≤ D) (h : NoneYet (sizN D + C) x y ok) (hn : ¬ (x = (D : Int) - C ∧ y = C ∧ ok = true)) : NoneYet (sizN D + C + 1) x y ok := by
  intro d c hc hlt
  by_cases hold : sizN d + c < sizN D + C
  · exact h d c hc hold
  · obtain ⟨rfl, rfl⟩ := name_inj hc hC (by omega)
    exact hn

def NamePost (x y : Int) (ok : Bool) (w : World) (e : Ending) (w' : World) : Prop :=
  ∃ r : Int, e = .returned (.int .i64 r) ∧ Below w.heap.size w w' ∧
    ((∃ d c : Nat, c ≤ d ∧ sizN d + c < 2080 ∧ x = (d : Int) - c ∧ y = c ∧ ok = true ∧ r = ((sizN d + c : Nat) : Int)) ∨ (r = -1 ∧ NoneYet 2080 x y ok))

set_option maxHeartbeats 1000000 in
theorem rname_walk (x y : Int) (ok : Bool) (w : World) : Calls Try.prog 12 #[.agg #[.int .i64 x, .int .i64 y, .bool ok]] w fun e w' => NamePost x y ok w e w' := by
  have CL := Lib.hid (fun w => list_any 64 w)
  go_enter Try.func12, Try.ntmps12
  go_wp2_with fail
  refine (CL.out _).mono ?_
  rintro e w1 ⟨v, rfl, hp, hb⟩
  obtain ⟨m, hd⟩ : ∃ m : Nat, sizN (diags 64) = m := ⟨_, rfl⟩
  have hm0 : 0 < m := by rw [← hd]; decide
  have hm1 : m ≤ 2080 := by rw [← hd]; decide
  have HM := Lib.hid (show m = 2080 by rw [← hd]; decide)
  rw [hd] at hp
  have q0 : w1.cell? ⟨w.heap.size, 0, none⟩ = some (.int .i64 x) := by rw [hb.cell (by simp)]; simp [World.cell?_alloc_at]
  have q1 : w1.cell? ⟨w.heap.size, 1, none⟩ = some (.int .i64 y) := by rw [hb.cell (by simp)]; simp [World.cell?_alloc_at]
  have q2 : w1.cell? ⟨w.heap.size, 2, none⟩ = some (.bool ok) := by rw [hb.cell (by simp)]; simp [World.cell?_alloc_at]
  have HB : Hid (Below w.heap.size w w1) := Lib.hid (((Below.refl _ _).alloc (Nat.le_refl _) _).trans (hb.mono (by simp)))
  have hs1 : w.heap.size < w1.heap.size := by have := hb.size; simp at this; omega
  obtain ⟨g, cap, rfl, hg, _⟩ := hp.cells (d := 0) (y := 0) (by omega) hm0
  have HP := Lib.hid hp
  have Q0 := Lib.hid q0
  have Q1 := Lib.hid q1
  have Q2 := Lib.hid q2
  clear hp hb hd q0 q1 q2
  go_wp2_with fail
  go_loopw [4] (fun t wr => ∃ i : Nat, i ≤ m ∧ t = .int .i64 i ∧ Hid (NoneYet i x y ok) ∧ Hid (Below w1.heap.size w1 wr)) (fun t _ => m - (intOf t).toNat)
  case atStart => exact ⟨0, by omega, rfl, Lib.hid (noneYet_zero x y ok), Lib.hid (Below.refl _ _)⟩
  case round =>
    obtain ⟨i, hi, rfl, HN, HW⟩ := hrel
    by_cases hlt : i < m
    · obtain ⟨d, c, hc, hidc⟩ := name_split i
      obtain ⟨g', cap', he, _, c0, c1, c2⟩ := HP.out.cells hc (by omega)
      obtain ⟨rfl, rfl⟩ := slice_inj he
      rw [← hidc] at c0 c1 c2
      have r0 := (HW.out.cell (p := ⟨g, i * 3, none⟩) hg).trans c0
      have r1 := (HW.out.cell (p := ⟨g, i * 3 + 1, none⟩) hg).trans c1
      have r2 := (HW.out.cell (p := ⟨g, i * 3 + 2, none⟩) hg).trans c2
      have s0 := (HW.out.cell (p := ⟨w.heap.size, 0, none⟩) hs1).trans Q0.out
      have s1 := (HW.out.cell (p := ⟨w.heap.size, 1, none⟩) hs1).trans Q1.out
      have s2 := (HW.out.cell (p := ⟨w.heap.size, 2, none⟩) hs1).trans Q2.out
      have HI := Lib.hid hidc
      clear hidc c0 c1 c2
      by_cases hq : x = (d : Int) - c ∧ y = c ∧ ok = true
      · obtain ⟨hq1, hq2, hq3⟩ := hq
        have hqe : ∀ w, (binOp .eql 25 (.agg #[.int .i64 ((d : Int) - c), .int .i64 c, .bool true]) (.agg #[.int .i64 x, .int .i64 y, .bool ok])).run Try.prog w = .ok (.bool true) w := fun w => by
          rw [eqP, hq1, hq2, hq3]; simp
        have HQ := Lib.hid (And.intro hq1 (And.intro hq2 hq3))
        have hgd := eqP_guard
        clear hq1 hq2 hq3
        go_wp2_with fail
        go_quiet (fail)
        go_wp2_with fail
        go_ret
        refine ⟨i, rfl, below_drewN (HB.out.trans (HW.out.mono (by omega))) _, .inl ⟨d, c, hc, ?_, HQ.out.1, HQ.out.2.1, HQ.out.2.2, ?_⟩⟩
        · have := HM.out; have := HI.out; omega
        · rw [← HI.out]
      · have hqe : ∀ w, (binOp .eql 25 (.agg #[.int .i64 ((d : Int) - c), .int .i64 c, .bool true]) (.agg #[.int .i64 x, .int .i64 y, .bool ok])).run Try.prog w = .ok (.bool false) w := fun w => by
          rw [eqP]
          congr 2
          by_cases h1 : (d : Int) - c = x
          · by_cases h2 : (c : Int) = y
            · have h3 : ok ≠ true := fun h => hq ⟨h1.symm, h2.symm, h⟩
              cases ok
              · simp
              · exact absurd rfl h3
            · simp [h2]
          · simp [h1]
        have HN2 := Lib.hid (show NoneYet (i + 1) x y ok by have := HI.out; subst this; exact noneYet_succ hc HN.out hq)
        have hgd := eqP_guard
        clear hq
        go_wp2_with fail
        go_quiet (fail)
        go_wp2_with fail
        go_roundw
        case rel => exact ⟨i + 1, by omega, by go_num, HN2, Lib.hid (below_drewN HW.out _)⟩
        case measure => simp [intOf]; omega
    · obtain rfl : i = m := by omega
      go_wp2_with fail
      go_ret
      exact ⟨-1, rfl, HB.out.trans (HW.out.mono (by omega)), .inr ⟨rfl, by have := HN.out; rwa [HM.out] at this⟩⟩

/-- A point's cells, one by one. -/
def px : Option Int → Option Int → Int
  | some x, some _ => x
  | _, _ => 0
def py : Option Int → Option Int → Int
  | some _, some y => y
  | _, _ => 0
def pok : Option Int → Option Int → Bool
  | some _, some _ => true
  | _, _ => false
theorem pval_eq (p q : Option Int) : pval p q = .agg #[.int .i64 (px p q), .int .i64 (py p q), .bool (pok p q)] := by
  cases p <;> cases q <;> rfl

theorem sizN64 : sizN 64 = 2080 := by decide
theorem diag_of {d c : Nat} (hc : c ≤ d) (h : sizN d + c < 2080) : d < 64 := by
  rcases Nat.lt_or_ge d 64 with g | g
  · exact g
  · have := sizN_le g; rw [sizN64] at this; omega

theorem found_name {p q : Option Int} {d c : Nat} (hc : c ≤ d) (h : sizN d + c < 2080) (hx : px p q = (d : Int) - c) (hy : py p q = c) (hk : pok p q = true) : p = some ((d : Int) - c) ∧ q = some (c : Int) := by
  match p, q with
  | some x, some y => exact ⟨congrArg some hx, congrArg some hy⟩
  | none, _ => cases hk
  | some _, none => cases hk

theorem none_dia {p q : Option Int} (k : Nat) (hk : k ≤ 64) (h : NoneYet (sizN k) (px p q) (py p q) (pok p q)) : diaI p q < 0 ∨ (k : Int) ≤ diaI p q := by
  rcases Int.lt_or_le (diaI p q) 0 with g | g
  · exact .inl g
  · obtain ⟨x, y, rfl, rfl, x0, y0, xy, e⟩ := diaI_inv g
    rcases Int.lt_or_le (diaI (some x) (some y)) k with g2 | g2
    · exfalso
      rw [e] at g2
      have hlt : (x + y).toNat < k := by omega
      have := sizN_lt hlt
      exact h (x + y).toNat y.toNat (by omega) (by omega) ⟨by show x = _; omega, by show y = _; omega, rfl⟩
    · exact .inr g2

theorem rname_any (p q : Option Int) (w : World) : Calls Try.prog 12 #[pval p q] w fun e w' => e = .returned (.int .i64 (namI p q)) ∧ Below w.heap.size w w' := by
  rw [pval_eq]
  refine (rname_walk _ _ _ w).mono ?_
  rintro e w' ⟨r, rfl, hb, ⟨d, c, hc, h, hx, hy, hk, rfl⟩ | ⟨rfl, hn⟩⟩
  · obtain ⟨rfl, rfl⟩ := found_name hc h hx hy hk
    have hd := diag_of hc h
    refine ⟨?_, hb⟩
    rw [namI_in _ _ (by omega) (by omega) (by omega), show (d : Int) - c + c = d from by omega, siz_nat d (by omega), Int.natCast_add]
  · refine ⟨?_, hb⟩
    have h := none_dia (p := p) (q := q) 64 (by omega) (by rw [sizN64]; exact hn)
    unfold namI
    rcases h with h | h
    · rw [if_pos h]
    · obtain ⟨x, y, rfl, rfl, x0, y0, xy, e⟩ := diaI_inv (p := p) (q := q) (by omega)
      omega

theorem Pts.form {w : World} {B m : Nat} {v : Value} (h : Pts w B v m) : ∃ A cap, v = .slice A m cap := by
  obtain ⟨xs, hown, _⟩ := h
  rcases hown.2 with ⟨rfl, rfl⟩ | ⟨g, cap, cur, rfl, _⟩
  · exact ⟨none, 0, rfl⟩
  · exact ⟨_, cap, rfl⟩

theorem slice_inj' {A : Option Addr} {g n n' c c' : Nat} (h : Value.slice A n c = .slice (some ⟨g, 0, none⟩) n' c') : A = some ⟨g, 0, none⟩ ∧ c = c' := by
  injection h with h1 _ h3
  exact ⟨h1, h3⟩

def OnPost (k : Nat) (x y : Int) (ok : Bool) (w : World) (e : Ending) (w' : World) : Prop :=
  ∃ r : Bool, e = .returned (.bool r) ∧ Below w.heap.size w w' ∧
    ((∃ d c : Nat, c ≤ d ∧ sizN d + c < sizN k ∧ x = (d : Int) - c ∧ y = c ∧ ok = true ∧ r = true) ∨ (r = false ∧ NoneYet (sizN k) x y ok))

set_option maxHeartbeats 1000000 in
theorem ron_walk (n : Int) (x y : Int) (ok : Bool) (w : World) : Calls Try.prog 10 #[.int .i64 n, .agg #[.int .i64 x, .int .i64 y, .bool ok]] w fun e w' => OnPost (diags n) x y ok w e w' := by
  have CL := Lib.hid (fun w => list_any n w)
  go_enter Try.func10, Try.ntmps10
  go_wp2_with fail
  refine (CL.out _).mono ?_
  rintro e w1 ⟨v, rfl, hp, hb⟩
  obtain ⟨m, hd⟩ : ∃ m : Nat, sizN (diags n) = m := ⟨_, rfl⟩
  have hm1 : m ≤ 2080 := by rw [← hd, ← sizN64]; exact sizN_le (diags_le n)
  have HM := Lib.hid hd
  rw [hd] at hp
  have q0 : w1.cell? ⟨w.heap.size, 0, none⟩ = some (.int .i64 x) := by rw [hb.cell (by simp)]; simp [World.cell?_alloc_at]
  have q1 : w1.cell? ⟨w.heap.size, 1, none⟩ = some (.int .i64 y) := by rw [hb.cell (by simp)]; simp [World.cell?_alloc_at]
  have q2 : w1.cell? ⟨w.heap.size, 2, none⟩ = some (.bool ok) := by rw [hb.cell (by simp)]; simp [World.cell?_alloc_at]
  have HB : Hid (Below w.heap.size w w1) := Lib.hid (((Below.refl _ _).alloc (Nat.le_refl _) _).trans (hb.mono (by simp)))
  have hs1 : w.heap.size < w1.heap.size := by have := hb.size; simp at this; omega
  obtain ⟨A, cap, rfl⟩ := hp.form
  have HP := Lib.hid hp
  have Q0 := Lib.hid q0
  have Q1 := Lib.hid q1
  have Q2 := Lib.hid q2
  clear hp hb hd q0 q1 q2
  go_wp2_with fail
  go_loopw [6] (fun t wr => ∃ i : Nat, i ≤ m ∧ t = .int .i64 i ∧ Hid (NoneYet i x y ok) ∧ Hid (Below w1.heap.size w1 wr)) (fun t _ => m - (intOf t).toNat)
  case atStart => exact ⟨0, by omega, rfl, Lib.hid (noneYet_zero x y ok), Lib.hid (Below.refl _ _)⟩
  case round =>
    obtain ⟨i, hi, rfl, HN, HW⟩ := hrel
    by_cases hlt : i < m
    · obtain ⟨d, c, hc, hidc⟩ := name_split i
      obtain ⟨g, cap', he, hg, c0, c1, c2⟩ := HP.out.cells hc (by omega)
      obtain ⟨rfl, rfl⟩ := slice_inj' he
      rw [← hidc] at c0 c1 c2
      have r0 := (HW.out.cell (p := ⟨g, i * 3, none⟩) hg).trans c0
      have r1 := (HW.out.cell (p := ⟨g, i * 3 + 1, none⟩) hg).trans c1
      have r2 := (HW.out.cell (p := ⟨g, i * 3 + 2, none⟩) hg).trans c2
      have s0 := (HW.out.cell (p := ⟨w.heap.size, 0, none⟩) hs1).trans Q0.out
      have s1 := (HW.out.cell (p := ⟨w.heap.size, 1, none⟩) hs1).trans Q1.out
      have s2 := (HW.out.cell (p := ⟨w.heap.size, 2, none⟩) hs1).trans Q2.out
      have HI := Lib.hid hidc
      clear hidc c0 c1 c2 he
      by_cases hq : x = (d : Int) - c ∧ y = c ∧ ok = true
      · obtain ⟨hq1, hq2, hq3⟩ := hq
        have hqe : ∀ w, (binOp .eql 25 (.agg #[.int .i64 ((d : Int) - c), .int .i64 c, .bool true]) (.agg #[.int .i64 x, .int .i64 y, .bool ok])).run Try.prog w = .ok (.bool true) w := fun w => by
          rw [eqP, hq1, hq2, hq3]; simp
        have HQ := Lib.hid (And.intro hq1 (And.intro hq2 hq3))
        have hgd := eqP_guard
        clear hq1 hq2 hq3
        go_wp2_with fail
        go_quiet (fail)
        go_wp2_with fail
        go_ret
        refine ⟨true, rfl, below_drewN (HB.out.trans (HW.out.mono (by omega))) _, .inl ⟨d, c, hc, ?_, HQ.out.1, HQ.out.2.1, HQ.out.2.2, rfl⟩⟩
        rw [HM.out]; have := HI.out; omega
      · have hqe : ∀ w, (binOp .eql 25 (.agg #[.int .i64 ((d : Int) - c), .int .i64 c, .bool true]) (.agg #[.int .i64 x, .int .i64 y, .bool ok])).run Try.prog w = .ok (.bool false) w := fun w => by
          rw [eqP]
          congr 2
          by_cases h1 : (d : Int) - c = x
          · by_cases h2 : (c : Int) = y
            · have h3 : ok ≠ true := fun h => hq ⟨h1.symm, h2.symm, h⟩
              cases ok
              · simp
              · exact absurd rfl h3
            · simp [h2]
          · simp [h1]
        have HN2 := Lib.hid (show NoneYet (i + 1) x y ok by have := HI.out; subst this; exact noneYet_succ hc HN.out hq)
        have hgd := eqP_guard
        clear hq
        go_wp2_with fail
        go_quiet (fail)
        go_wp2_with fail
        go_roundw
        case rel => exact ⟨i + 1, by omega, by go_num, HN2, Lib.hid (below_drewN HW.out _)⟩
        case measure => simp [intOf]; omega
    · obtain rfl : i = m := by omega
      go_wp2_with fail
      go_ret
      exact ⟨false, rfl, HB.out.trans (HW.out.mono (by omega)), .inr ⟨rfl, by have := HN.out; rwa [← HM.out] at this⟩⟩

theorem ron_any (n : Int) (p q : Option Int) (w : World) : Calls Try.prog 10 #[.int .i64 n, pval p q] w fun e w' => e = .returned (.bool (onI n (diaI p q))) ∧ Below w.heap.size w w' := by
  rw [pval_eq]
  refine (ron_walk n _ _ _ w).mono ?_
  have hk : diags n = (min n 64).toNat := rfl
  rintro e w' ⟨r, rfl, hb, ⟨d, c, hc, h, hx, hy, hok, rfl⟩ | ⟨rfl, hn⟩⟩
  · have h20 : sizN d + c < 2080 := by have := sizN_le (diags_le n); rw [sizN64] at this; omega
    obtain ⟨rfl, rfl⟩ := found_name hc h20 hx hy hok
    have hd := diag_of hc h20
    have hlt : d < diags n := by
      rcases Nat.lt_or_ge d (diags n) with g | g
      · exact g
      · have := sizN_le g; omega
    refine ⟨?_, hb⟩
    rw [diaI_in _ _ (by omega) (by omega) (by omega)]
    unfold onI
    rw [decide_eq_true (by omega), decide_eq_true (by omega)]
    rfl
  · refine ⟨?_, hb⟩
    have h := none_dia (p := p) (q := q) (diags n) (diags_le n) hn
    unfold onI
    rcases h with h | h
    · rw [decide_eq_false (show ¬ 0 ≤ diaI p q by omega)]; rfl
    · by_cases h0 : 0 ≤ diaI p q
      · obtain ⟨x, y, rfl, rfl, x0, y0, xy, e⟩ := diaI_inv h0
        rw [decide_eq_false (show ¬ diaI (some x) (some y) < n by omega)]; simp
      · rw [decide_eq_false h0]; rfl

theorem rdiag_any (p q : Option Int) (w : World) : Calls Try.prog 14 #[pval p q] w fun e w' => e = .returned (.int .i64 (diaI p q)) ∧ Below w.heap.size w w' := by
  by_cases h0 : 0 ≤ diaI p q
  · obtain ⟨x, y, rfl, rfl, x0, y0, xy, e⟩ := diaI_inv h0
    have cn := fun w => rname_any (some x) (some y) w
    rw [namI_in x y x0 y0 xy] at cn
    have bd := siz_bd (x + y)
    have hnn : 0 ≤ siz (x + y) + y := by omega
    have CN := Lib.hid cn
    rw [e]
    clear cn e h0
    show Calls _ _ #[.agg #[.int .i64 x, .int .i64 y, .bool true]] _ _
    go_enter Try.func14, Try.ntmps14
    go_wp2_with fail
    refine (CN.out _).mono ?_
    rintro e w1 ⟨rfl, hb⟩
    have q0 : w1.cell? ⟨w.heap.size, 0, none⟩ = some (.int .i64 x) := by rw [hb.cell (by simp)]; simp [World.cell?_alloc_at]
    have q1 : w1.cell? ⟨w.heap.size, 1, none⟩ = some (.int .i64 y) := by rw [hb.cell (by simp)]; simp [World.cell?_alloc_at]
    have HB : Hid (Below w.heap.size w w1) := Lib.hid (((Below.refl _ _).alloc (Nat.le_refl _) _).trans (hb.mono (by simp)))
    clear hb
    go_wp2_with fail
    go_ret
    exact ⟨rfl, HB.out⟩
  · have cn := fun w => rname_any p q w
    have hn : namI p q = -1 := by unfold namI; rw [if_pos (by omega)]
    have hd : diaI p q = -1 := by
      unfold diaI at h0 ⊢
      match p, q with
      | none, _ => rfl
      | some _, none => rfl
      | some x, some y =>
        simp only at h0 ⊢
        by_cases h1 : x < 0
        · rw [if_pos h1]
        · rw [if_neg h1] at h0 ⊢
          by_cases h2 : y < 0
          · rw [if_pos h2]
          · rw [if_neg h2] at h0 ⊢
            by_cases h3 : 64 ≤ x + y
            · rw [if_pos h3]
            · rw [if_neg h3] at h0; omega
    rw [hn] at cn
    rw [hd]
    rw [pval_eq] at cn ⊢
    generalize px p q = x at *
    generalize py p q = y at *
    generalize pok p q = ok at *
    have CN := Lib.hid cn
    clear cn hn hd h0
    go_enter Try.func14, Try.ntmps14
    go_wp2_with fail
    refine (CN.out _).mono ?_
    rintro e w1 ⟨rfl, hb⟩
    have HB : Hid (Below w.heap.size w w1) := Lib.hid (((Below.refl _ _).alloc (Nat.le_refl _) _).trans (hb.mono (by simp)))
    clear hb
    go_wp2_with fail
    go_ret
    exact ⟨rfl, HB.out⟩

end Go.Proofs.Ytaplhooapgfdgaa
