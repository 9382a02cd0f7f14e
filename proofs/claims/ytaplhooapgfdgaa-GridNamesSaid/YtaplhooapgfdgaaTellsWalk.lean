/-
  The walk of the law GridTells.
-/
import Derived.Test.YtaplhooapgfdgaaRefB
import Derived.Deep.RegionHeld3
set_option linter.unusedVariables false
set_option linter.unusedSimpArgs false
namespace Go.Proofs.Ytaplhooapgfdgaa
open Go.RowKit

/-- A contract, said of every world that lies above a fixed one. -/
theorem fromBase {P : Program} {f : FuncId} {args : Array Value} {v : Value} (c : ∀ w : World, Calls P f args w fun e w' => e = .returned v ∧ Below w.heap.size w w') (w0 : World) :
    ∀ w : World, Below w0.heap.size w0 w → Calls P f args w fun e w' => e = .returned v ∧ Below w0.heap.size w0 w' :=
  fun w h => (c w).mono fun e w' ⟨he, hb⟩ => ⟨he, h.trans (hb.mono h.size)⟩
theorem fromBaseQ {P : Program} {f : FuncId} {args : Array Value} {v : Value} (c : ∀ w : World, Calls P f args w fun e w' => e = .returned v ∧ w = w') (w0 : World) :
    ∀ w : World, Below w0.heap.size w0 w → Calls P f args w fun e w' => e = .returned v ∧ Below w0.heap.size w0 w' :=
  fun w h => (c w).mono fun e w' ⟨he, hb⟩ => ⟨he, hb ▸ h⟩

theorem keep3 {w0 w' : World} {g : Nat} {a b c : Value} (hg : g < w0.heap.size) (h0 : w0.cell? ⟨g, 0, none⟩ = some a) (h1 : w0.cell? ⟨g, 1, none⟩ = some b) (h2 : w0.cell? ⟨g, 2, none⟩ = some c)
    (hb : Below w0.heap.size w0 w') : Below w0.heap.size w0 w' ∧ w'.cell? ⟨g, 0, none⟩ = some a ∧ w'.cell? ⟨g, 1, none⟩ = some b ∧ w'.cell? ⟨g, 2, none⟩ = some c :=
  ⟨hb, (hb.cell hg).trans h0, (hb.cell hg).trans h1, (hb.cell hg).trans h2⟩

def LenPost (m : Nat) (w0 : World) (e : Ending) (w' : World) : Prop := ∃ A cap, e = .returned (.slice A m cap) ∧ Below w0.heap.size w0 w'

theorem list_base (n : Int) (w0 : World) : ∀ w : World, Below w0.heap.size w0 w → Calls Try.prog 8 #[.int .i64 n] w fun e w' => LenPost (sizN (diags n)) w0 e w' :=
  fun w h => (list_any n w).mono fun e w' ⟨v, he, hp, hb⟩ => by
    obtain ⟨A, cap, rfl⟩ := hp.form
    exact ⟨A, cap, he, h.trans (hb.mono h.size)⟩

set_option maxHeartbeats 1000000 in
theorem tells_any (n : Int) (a b : Nat) (w : World) : Calls Try.prog 3 #[.int .i64 n, .float .f64 a, .float .f64 b] w fun e w' =>
    e = .returned (.bool true) ∧ Below w.heap.size w w' := by
  have co := fun w => of_any a b w
  rw [pval_eq] at co
  have CO := Lib.hid co
  have c7 := fun w => size_any n w
  rw [diags_siz n] at c7
  have c8 := fun w => list_any n w
  have c9 := fun w => on_any n a b w
  have c10 := fun w => ron_any n (wh a) (wh b) w
  have c11 := fun w => name_any a b w
  have c12 := fun w => rname_any (wh a) (wh b) w
  have c13 := fun w => diag_any a b w
  have c14 := fun w => rdiag_any (wh a) (wh b) w
  have c15 := fun w => alive_any w
  rw [pval_eq] at c10 c12 c14
  generalize px (wh a) (wh b) = x at *
  generalize py (wh a) (wh b) = y at *
  generalize pok (wh a) (wh b) = k at *
  generalize namI (wh a) (wh b) = nm at *
  generalize onI n (diaI (wh a) (wh b)) = on at *
  generalize diaI (wh a) (wh b) = dg at *
  have c8' := fun w0 => list_base n w0
  generalize sizN (diags n) = m at *
  have C7 := Lib.hid (fromBaseQ c7)
  have C8 := Lib.hid c8'
  have C9 := Lib.hid (fromBaseQ c9)
  have C10 := Lib.hid (fromBase c10)
  have C11 := Lib.hid (fromBaseQ c11)
  have C12 := Lib.hid (fromBase c12)
  have C13 := Lib.hid (fromBaseQ c13)
  have C14 := Lib.hid (fromBase c14)
  have C15 := Lib.hid (fromBaseQ c15)
  clear co c7 c8 c9 c10 c11 c12 c13 c14 c15 c8'
  go_enter Try.func3, Try.ntmps3
  go_wp2_with fail
  refine (CO.out _).mono ?_
  rintro e w1 ⟨rfl, hb⟩
  have HB := Lib.hid hb
  clear hb
  go_wp2_with fail
  have h0 : (w1.alloc (.cells #[.int .i64 x, .int .i64 y, .bool k] 25)).cell? ⟨w1.heap.size, 0, none⟩ = some (.int .i64 x) := by simp [World.cell?_alloc_at]
  have h1 : (w1.alloc (.cells #[.int .i64 x, .int .i64 y, .bool k] 25)).cell? ⟨w1.heap.size, 1, none⟩ = some (.int .i64 y) := by simp [World.cell?_alloc_at]
  have h2 : (w1.alloc (.cells #[.int .i64 x, .int .i64 y, .bool k] 25)).cell? ⟨w1.heap.size, 2, none⟩ = some (.bool k) := by simp [World.cell?_alloc_at]
  have hg : w1.heap.size < (w1.alloc (.cells #[.int .i64 x, .int .i64 y, .bool k] 25)).heap.size := by simp
  have hB2 := HB.out.trans ((Below.refl _ _).alloc (HB.out.size) (.cells #[.int .i64 x, .int .i64 y, .bool k] 25))
  have hs2 : w.heap.size ≤ (w1.alloc (.cells #[.int .i64 x, .int .i64 y, .bool k] 25)).heap.size := by have := HB.out.size; simp; omega
  clear HB
  generalize (w1.alloc (.cells #[.int .i64 x, .int .i64 y, .bool k] 25)) = w2 at *
  have HB2 := Lib.hid hB2
  have hr := Below.refl w2.heap.size w2
  generalize w1.heap.size = g at *
  have D7 := Lib.hid (C7.out w2)
  have D8 := Lib.hid (C8.out w2)
  have D9 := Lib.hid (C9.out w2)
  have D10 := Lib.hid (C10.out w2)
  have D11 := Lib.hid (C11.out w2)
  have D12 := Lib.hid (C12.out w2)
  have D13 := Lib.hid (C13.out w2)
  have D14 := Lib.hid (C14.out w2)
  have D15 := Lib.hid (C15.out w2)
  have KP := Lib.hid (fun w' hb => keep3 (w' := w') hg h0 h1 h2 hb)
  clear C7 C8 C9 C10 C11 C12 C13 C14 C15 hB2 hg
  go_region_held3 (fun w' => Below w2.heap.size w2 w' ∧ w'.cell? ⟨g, 0, none⟩ = some (.int .i64 x) ∧ w'.cell? ⟨g, 1, none⟩ = some (.int .i64 y) ∧ w'.cell? ⟨g, 2, none⟩ = some (.bool k))
    (first | exact KP.out _ (by assumption) | exact KP.out _ (Below.refl _ _).drew)
    (first
      | (go_at_call 7; refine (D7.out _ ?_).mono ?_; exact And.left (by assumption); rintro e w' ⟨rfl, hb⟩)
      | (go_at_call 8; refine (D8.out _ ?_).mono ?_; exact And.left (by assumption); rintro e w' ⟨A, cap, rfl, hb⟩)
      | (go_at_call 9; refine (D9.out _ ?_).mono ?_; exact And.left (by assumption); rintro e w' ⟨rfl, hb⟩)
      | (go_at_call 10; refine (D10.out _ ?_).mono ?_; exact And.left (by assumption); rintro e w' ⟨rfl, hb⟩)
      | (go_at_call 11; refine (D11.out _ ?_).mono ?_; exact And.left (by assumption); rintro e w' ⟨rfl, hb⟩)
      | (go_at_call 12; refine (D12.out _ ?_).mono ?_; exact And.left (by assumption); rintro e w' ⟨rfl, hb⟩)
      | (go_at_call 13; refine (D13.out _ ?_).mono ?_; exact And.left (by assumption); rintro e w' ⟨rfl, hb⟩)
      | (go_at_call 14; refine (D14.out _ ?_).mono ?_; exact And.left (by assumption); rintro e w' ⟨rfl, hb⟩)
      | (go_at_call 15; refine (D15.out _ ?_).mono ?_; exact And.left (by assumption); rintro e w' ⟨rfl, hb⟩))
  go_wp2_with fail
  go_ret
  refine ⟨rfl, HB2.out.trans (Below.mono (B := w2.heap.size) ?_ hs2)⟩
  first | assumption | exact And.left (by assumption)

theorem names_any (name : Int) (w : World) : Calls Try.prog 4 #[.int .i64 name] w fun e w' =>
    e = .returned (.bool true) ∧ Below w.heap.size w w' := by
  have CL := Lib.hid (fun w => list_any 64 w)
  have CA := Lib.hid (fun w => alive_any w)
  obtain ⟨m, hd⟩ : ∃ m : Nat, sizN (diags 64) = m := ⟨_, rfl⟩
  have hm0 : 0 < m := by rw [← hd]; decide
  have hm1 : m ≤ 2080 := by rw [← hd]; decide
  have HM := Lib.hid (show m = 2080 by rw [← hd]; decide)
  by_cases h1 : 0 ≤ name
  · by_cases h2 : name < m
    · obtain ⟨i, rfl⟩ : ∃ i : Nat, name = i := ⟨name.toNat, by omega⟩
      obtain ⟨d, c, hc, hidc⟩ := name_split i
      have h20 : sizN d + c < 2080 := by have := HM.out; omega
      have hdd := diag_of hc h20
      have cat := fun w => at_in d c w (by omega) (by omega) (by omega)
      rw [siz_nat d (by omega), ← Int.natCast_add, ← hidc] at cat
      have CT := Lib.hid cat
      have CI := Lib.hid (fun w => is_yes ((d : Int) - c) c true w (by omega) (by omega) (by omega) (by omega))
      clear cat
      go_enter Try.func4, Try.ntmps4
      go_wp2_with fail
      refine (CL.out _).mono ?_
      rintro e w1 ⟨v, rfl, hp, hb⟩
      rw [hd] at hp
      obtain ⟨g, cap, rfl, hg, c0, c1, c2⟩ := hp.cells hc (by omega)
      rw [← hidc] at c0 c1 c2
      have HB := Lib.hid hb
      have HD := Lib.hid hd
      have HI := Lib.hid hidc
      clear hp hb hd hidc
      have n0 : (w1.alloc (.cells #[.int .i64 0, .int .i64 0, .bool true] 25)).cell? ⟨g, i * 3, none⟩ = some (.int .i64 ((d : Int) - c)) := by rw [World.cell?_alloc_lt _ _ _ hg]; exact c0
      have n1 : (w1.alloc (.cells #[.int .i64 0, .int .i64 0, .bool true] 25)).cell? ⟨g, i * 3 + 1, none⟩ = some (.int .i64 c) := by rw [World.cell?_alloc_lt _ _ _ hg]; exact c1
      have n2 : (w1.alloc (.cells #[.int .i64 0, .int .i64 0, .bool true] 25)).cell? ⟨g, i * 3 + 2, none⟩ = some (.bool true) := by rw [World.cell?_alloc_lt _ _ _ hg]; exact c2
      go_wp2_with fail
      have h0 : (w1.alloc (.cells #[.int .i64 ((d : Int) - c), .int .i64 c, .bool true] 25)).cell? ⟨w1.heap.size, 0, none⟩ = some (.int .i64 ((d : Int) - c)) := by simp [World.cell?_alloc_at]
      have h1 : (w1.alloc (.cells #[.int .i64 ((d : Int) - c), .int .i64 c, .bool true] 25)).cell? ⟨w1.heap.size, 1, none⟩ = some (.int .i64 c) := by simp [World.cell?_alloc_at]
      have h2 : (w1.alloc (.cells #[.int .i64 ((d : Int) - c), .int .i64 c, .bool true] 25)).cell? ⟨w1.heap.size, 2, none⟩ = some (.bool true) := by simp [World.cell?_alloc_at]
      have hgg : w1.heap.size < (w1.alloc (.cells #[.int .i64 ((d : Int) - c), .int .i64 c, .bool true] 25)).heap.size := by simp
      have hB2 := HB.out.trans ((Below.refl _ _).alloc (HB.out.size) (.cells #[.int .i64 ((d : Int) - c), .int .i64 c, .bool true] 25))
      have hs2 : w.heap.size ≤ (w1.alloc (.cells #[.int .i64 ((d : Int) - c), .int .i64 c, .bool true] 25)).heap.size := by have := HB.out.size; simp; omega
      clear HB
      generalize (w1.alloc (.cells #[.int .i64 ((d : Int) - c), .int .i64 c, .bool true] 25)) = w2 at *
      have HB2 := Lib.hid hB2
      have hr := Below.refl w2.heap.size w2
      generalize w1.heap.size = g3 at *
      have D17 := Lib.hid (fromBaseQ CT.out w2)
      have D16 := Lib.hid (fromBase CI.out w2)
      have D15 := Lib.hid (fromBaseQ CA.out w2)
      have KP := Lib.hid (fun w' hb => keep3 (w' := w') hgg h0 h1 h2 hb)
      clear CL CA CT CI hB2 hgg
      go_region_held3 (fun w' => Below w2.heap.size w2 w' ∧ w'.cell? ⟨g3, 0, none⟩ = some (.int .i64 ((d : Int) - c)) ∧ w'.cell? ⟨g3, 1, none⟩ = some (.int .i64 c) ∧ w'.cell? ⟨g3, 2, none⟩ = some (.bool true))
        (first | exact KP.out _ (by assumption) | exact KP.out _ (Below.refl _ _).drew)
        (first
          | (go_at_call 17; refine (D17.out _ ?_).mono ?_; exact And.left (by assumption); rintro e w' ⟨rfl, hb⟩)
          | (go_at_call 16; refine (D16.out _ ?_).mono ?_; exact And.left (by assumption); rintro e w' ⟨rfl, hb⟩)
          | (go_at_call 15; refine (D15.out _ ?_).mono ?_; exact And.left (by assumption); rintro e w' ⟨rfl, hb⟩))
      go_wp2_with fail
      go_ret
      refine ⟨rfl, HB2.out.trans (Below.mono (B := w2.heap.size) ?_ hs2)⟩
      first | assumption | exact And.left (by assumption)
    · have cat := fun w => at_out name w (by have := HM.out; omega)
      have CT := Lib.hid cat
      have ci := fun w => is_yes 0 0 true w (by omega) (by omega) (by omega) (by omega)
      rw [show fl 0 = 0 from by decide] at ci
      have CI := Lib.hid ci
      clear cat ci
      go_enter Try.func4, Try.ntmps4
      go_wp2_with fail
      refine (CL.out _).mono ?_
      rintro e w1 ⟨v, rfl, hp, hb⟩
      rw [hd] at hp
      obtain ⟨A, cap, rfl⟩ := hp.form
      have HB := Lib.hid hb
      have HD := Lib.hid hd
      clear hp hb hd
      go_wp2_with fail
      have h0 : (w1.alloc (.cells #[.int .i64 (0), .int .i64 0, .bool true] 25)).cell? ⟨w1.heap.size, 0, none⟩ = some (.int .i64 (0)) := by simp [World.cell?_alloc_at]
      have h1 : (w1.alloc (.cells #[.int .i64 (0), .int .i64 0, .bool true] 25)).cell? ⟨w1.heap.size, 1, none⟩ = some (.int .i64 0) := by simp [World.cell?_alloc_at]
      have h2 : (w1.alloc (.cells #[.int .i64 (0), .int .i64 0, .bool true] 25)).cell? ⟨w1.heap.size, 2, none⟩ = some (.bool true) := by simp [World.cell?_alloc_at]
      have hgg : w1.heap.size < (w1.alloc (.cells #[.int .i64 (0), .int .i64 0, .bool true] 25)).heap.size := by simp
      have hB2 := HB.out.trans ((Below.refl _ _).alloc (HB.out.size) (.cells #[.int .i64 (0), .int .i64 0, .bool true] 25))
      have hs2 : w.heap.size ≤ (w1.alloc (.cells #[.int .i64 (0), .int .i64 0, .bool true] 25)).heap.size := by have := HB.out.size; simp; omega
      clear HB
      generalize (w1.alloc (.cells #[.int .i64 (0), .int .i64 0, .bool true] 25)) = w2 at *
      have HB2 := Lib.hid hB2
      have hr := Below.refl w2.heap.size w2
      generalize w1.heap.size = g3 at *
      have D17 := Lib.hid (fromBaseQ CT.out w2)
      have D16 := Lib.hid (fromBase CI.out w2)
      have D15 := Lib.hid (fromBaseQ CA.out w2)
      have KP := Lib.hid (fun w' hb => keep3 (w' := w') hgg h0 h1 h2 hb)
      clear CL CA CT CI hB2 hgg
      go_region_held3 (fun w' => Below w2.heap.size w2 w' ∧ w'.cell? ⟨g3, 0, none⟩ = some (.int .i64 (0)) ∧ w'.cell? ⟨g3, 1, none⟩ = some (.int .i64 0) ∧ w'.cell? ⟨g3, 2, none⟩ = some (.bool true))
        (first | exact KP.out _ (by assumption) | exact KP.out _ (Below.refl _ _).drew)
        (first
          | (go_at_call 17; refine (D17.out _ ?_).mono ?_; exact And.left (by assumption); rintro e w' ⟨rfl, hb⟩)
          | (go_at_call 16; refine (D16.out _ ?_).mono ?_; exact And.left (by assumption); rintro e w' ⟨rfl, hb⟩)
          | (go_at_call 15; refine (D15.out _ ?_).mono ?_; exact And.left (by assumption); rintro e w' ⟨rfl, hb⟩))
      go_wp2_with fail
      go_ret
      refine ⟨rfl, HB2.out.trans (Below.mono (B := w2.heap.size) ?_ hs2)⟩
      first | assumption | exact And.left (by assumption)
  · have cat := fun w => at_out name w (by have := HM.out; omega)
    have CT := Lib.hid cat
    have ci := fun w => is_yes 0 0 true w (by omega) (by omega) (by omega) (by omega)
    rw [show fl 0 = 0 from by decide] at ci
    have CI := Lib.hid ci
    clear cat ci
    go_enter Try.func4, Try.ntmps4
    go_wp2_with fail
    refine (CL.out _).mono ?_
    rintro e w1 ⟨v, rfl, hp, hb⟩
    rw [hd] at hp
    obtain ⟨A, cap, rfl⟩ := hp.form
    have HB := Lib.hid hb
    have HD := Lib.hid hd
    clear hp hb hd
    go_wp2_with fail
    have h0 : (w1.alloc (.cells #[.int .i64 (0), .int .i64 0, .bool true] 25)).cell? ⟨w1.heap.size, 0, none⟩ = some (.int .i64 (0)) := by simp [World.cell?_alloc_at]
    have h1 : (w1.alloc (.cells #[.int .i64 (0), .int .i64 0, .bool true] 25)).cell? ⟨w1.heap.size, 1, none⟩ = some (.int .i64 0) := by simp [World.cell?_alloc_at]
    have h2 : (w1.alloc (.cells #[.int .i64 (0), .int .i64 0, .bool true] 25)).cell? ⟨w1.heap.size, 2, none⟩ = some (.bool true) := by simp [World.cell?_alloc_at]
    have hgg : w1.heap.size < (w1.alloc (.cells #[.int .i64 (0), .int .i64 0, .bool true] 25)).heap.size := by simp
    have hB2 := HB.out.trans ((Below.refl _ _).alloc (HB.out.size) (.cells #[.int .i64 (0), .int .i64 0, .bool true] 25))
    have hs2 : w.heap.size ≤ (w1.alloc (.cells #[.int .i64 (0), .int .i64 0, .bool true] 25)).heap.size := by have := HB.out.size; simp; omega
    clear HB
    generalize (w1.alloc (.cells #[.int .i64 (0), .int .i64 0, .bool true] 25)) = w2 at *
    have HB2 := Lib.hid hB2
    have hr := Below.refl w2.heap.size w2
    generalize w1.heap.size = g3 at *
    have D17 := Lib.hid (fromBaseQ CT.out w2)
    have D16 := Lib.hid (fromBase CI.out w2)
    have D15 := Lib.hid (fromBaseQ CA.out w2)
    have KP := Lib.hid (fun w' hb => keep3 (w' := w') hgg h0 h1 h2 hb)
    clear CL CA CT CI hB2 hgg
    go_region_held3 (fun w' => Below w2.heap.size w2 w' ∧ w'.cell? ⟨g3, 0, none⟩ = some (.int .i64 (0)) ∧ w'.cell? ⟨g3, 1, none⟩ = some (.int .i64 0) ∧ w'.cell? ⟨g3, 2, none⟩ = some (.bool true))
      (first | exact KP.out _ (by assumption) | exact KP.out _ (Below.refl _ _).drew)
      (first
        | (go_at_call 17; refine (D17.out _ ?_).mono ?_; exact And.left (by assumption); rintro e w' ⟨rfl, hb⟩)
        | (go_at_call 16; refine (D16.out _ ?_).mono ?_; exact And.left (by assumption); rintro e w' ⟨rfl, hb⟩)
        | (go_at_call 15; refine (D15.out _ ?_).mono ?_; exact And.left (by assumption); rintro e w' ⟨rfl, hb⟩))
    go_wp2_with fail
    go_ret
    refine ⟨rfl, HB2.out.trans (Below.mono (B := w2.heap.size) ?_ hs2)⟩
    first | assumption | exact And.left (by assumption)

end Go.Proofs.Ytaplhooapgfdgaa
