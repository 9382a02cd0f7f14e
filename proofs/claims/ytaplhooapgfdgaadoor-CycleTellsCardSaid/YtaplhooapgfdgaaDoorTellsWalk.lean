/-
  The walk of the law CycleTells.
-/
import Derived.Test.YtaplhooapgfdgaaDoorCycI
set_option linter.unusedVariables false
set_option linter.unusedSimpArgs false
namespace Go.Proofs.YtaplhooapgfdgaaDoor
open Go.RowKit

theorem upQ {P : Program} {f : FuncId} {args : Array Value} {R : Ending → Prop} {w0 : World} (c : ∀ w : World, Up w0 w → Calls P f args w fun e w' => R e ∧ w = w') :
    ∀ w : World, Up w0 w → Calls P f args w fun e w' => R e ∧ Up w0 w' := fun w h => (c w h).mono fun e w' ⟨he, hb⟩ => ⟨he, hb ▸ h⟩
theorem upU {P : Program} {f : FuncId} {args : Array Value} {R : Ending → Prop} {w0 : World} (c : ∀ w : World, Up w0 w → Calls P f args w fun e w' => R e ∧ Up w w') :
    ∀ w : World, Up w0 w → Calls P f args w fun e w' => R e ∧ Up w0 w' := fun w h => (c w h).mono fun e w' ⟨he, hb⟩ => ⟨he, h.trans hb⟩

theorem tells_long (n m : Nat) (A B : Option Addr) (c d : Nat) (x y : Int) (w : World) (hr : Ring w) (h : 40 < n ∨ 40 < m) :
    Calls Tryd.prog 3 #[.slice A n c, .slice B m d, .int .i64 x, .int .i64 y] w fun e w' => e = .returned (.bool true) ∧ Up w w' := by
  have C := Lib.hid (alive_any w hr)
  by_cases h1 : 40 < n
  · clear h
    go_enter Tryd.func3, Tryd.ntmps3
    go_wp2_with fail
    refine C.out.mono ?_
    rintro e w1 ⟨rfl, hu⟩
    have HU := Lib.hid hu
    clear hu
    go_wp2_with fail
    go_ret
    exact ⟨rfl, HU.out⟩
  · have h2 : 40 < m := by omega
    clear h
    go_enter Tryd.func3, Tryd.ntmps3
    go_wp2_with fail
    refine C.out.mono ?_
    rintro e w1 ⟨rfl, hu⟩
    have HU := Lib.hid hu
    clear hu
    go_wp2_with fail
    go_ret
    exact ⟨rfl, HU.out⟩

theorem fine_zeros (k : Nat) (h : k ≤ 8) : fineL (List.replicate k 0) = true := by
  unfold fineL
  rw [List.length_replicate, decide_eq_true h, Bool.true_and, List.all_eq_true]
  intro x hx
  rw [(List.mem_replicate.1 hx).2]
  rfl

set_option maxHeartbeats 2000000 in
theorem tells_short (a b : List Int) (A B : Option Addr) (c d : Nat) (x y : Int) (w : World) (hr : Ring w) (ha : a.length ≤ 40) (hb : b.length ≤ 40) (hac : a.length ≤ c) (hbd : b.length ≤ d) (hc : c ≤ 9223372036854775807) (hd : d ≤ 9223372036854775807)
    (hra : Row w A a.length (IVal a)) (hrb : Row w B b.length (IVal b)) :
    Calls Tryd.prog 3 #[.slice A a.length c, .slice B b.length d, .int .i64 x, .int .i64 y] w fun e w' => e = .returned (.bool true) ∧ Up w w' := by
  have CZ := Lib.hid (zeros_any x w)
  have hz8 : zeroN x ≤ 8 := by unfold zeroN; omega
  have hcl : clampI x 0 (clampI 8 0 1099511627776) = (zeroN x : Int) := by
    unfold clampI zeroN
    rw [if_neg (show ¬ (8 : Int) < 0 by decide), if_neg (show ¬ (1099511627776 : Int) < 8 by decide)]
    by_cases h1 : x < 0
    · rw [if_pos h1]; omega
    · rw [if_neg h1]
      by_cases h2 : 8 < x
      · rw [if_pos h2]; omega
      · rw [if_neg h2]; omega
  have c8 := fun (W : World) => clamp_any x 8 W
  rw [hcl] at c8
  have C8 := Lib.hid c8
  have HZF := Lib.hid (fine_zeros (zeroN x) hz8)
  have HRA := Lib.hid hra
  have HRB := Lib.hid hrb
  have HRG := Lib.hid hr
  obtain ⟨k, hk⟩ : ∃ k, zeroN x = k := ⟨_, rfl⟩
  rw [hk] at CZ hz8 C8 HZF
  have HN := Lib.hid (show a.length ≤ 40 ∧ b.length ≤ 40 ∧ a.length ≤ c ∧ b.length ≤ d from ⟨ha, hb, hac, hbd⟩)
  clear hra hrb hr c8 hcl hk
  obtain ⟨n, hn⟩ : ∃ n, a.length = n := ⟨_, rfl⟩
  obtain ⟨m, hm⟩ : ∃ m, b.length = m := ⟨_, rfl⟩
  rw [hn] at ha ⊢
  rw [hm] at hb ⊢
  have HNN := Lib.hid (And.intro hn hm)
  clear hn hm hac hbd
  go_enter Tryd.func3, Tryd.ntmps3
  go_wp2_with fail
  refine CZ.out.mono ?_
  rintro e w1 ⟨Z, cz, rfl, hrz, hu1⟩
  rw [List.length_replicate] at hrz ⊢
  have HU1 := Lib.hid (show Up w w1 from hu1)
  have hu1' : Up w w1 := hu1
  obtain ⟨n1, n2, n3, n4⟩ := HN.out
  obtain ⟨e1, e2⟩ := HNN.out
  have rga := (HRG.out.up hu1')
  have ra := HRA.out.up hu1'
  have rb := HRB.out.up hu1'
  have cfz := fine_any (List.replicate k 0) Z cz w1 (by simp; omega) (by rw [List.length_replicate]; exact hrz)
  rw [List.length_replicate, HZF.out] at cfz
  have CFZ := Lib.hid cfz
  have c10 := upQ (w0 := w1) (fun W h => next_any x W (rga.up h))
  have c11 := upQ (w0 := w1) (fun W h => rnext_any x W)
  have c12 := upQ (w0 := w1) (fun W h => beats_any x y W (rga.up h))
  have c13 := upQ (w0 := w1) (fun W h => rbeats_any x y W)
  have c9 := upQ (w0 := w1) (fun W h => fine_any a A c W (by omega) (ra.up h))
  have c14 := upQ (w0 := w1) (fun W h => rfine_any a A c W (by omega) (ra.up h))
  have c15 := upBase (w0 := w1) (fun W h => dom_any a b A B c d W (rga.up h) (by omega) (by omega) (ra.up h) (rb.up h))
  have c16 := upU (w0 := w1) (fun W h => rdom_any a b A B c d W n3 n4 hc hd (ra.up h) (rb.up h))
  have c17 := upBase (w0 := w1) (fun W h => text_any a A c W (by omega) (ra.up h))
  have c18 := upQ (w0 := w1) (fun W h => rtext_any a A c W (by omega) (ra.up h))
  have c6 := upBase (w0 := w1) (fun W h => alive_any W (rga.up h))
  rw [e1] at c9 c14 c15 c16 c17 c18
  rw [e2] at c15 c16
  generalize nextI x = nx at *
  generalize beatsI x y = bx at *
  generalize fineL a = fa at *
  generalize domI a b = da at *
  generalize textL a = ta at *
  have C10 := Lib.hid c10
  have C11 := Lib.hid c11
  have C12 := Lib.hid c12
  have C13 := Lib.hid c13
  have C9 := Lib.hid c9
  have C14 := Lib.hid c14
  have C15 := Lib.hid c15
  have C16 := Lib.hid c16
  have C17 := Lib.hid c17
  have C18 := Lib.hid c18
  have C6 := Lib.hid c6
  clear c10 c11 c12 c13 c9 c14 c15 c16 c17 c18 c6 cfz hu1 hu1' rga ra rb HRA HRB HRG n1 n2 n3 n4 e1 e2 HN HNN CZ
  have HRZ := Lib.hid hrz
  clear hrz
  by_cases hk0 : 0 < k
  · obtain ⟨bz, oz, rfl, hcz⟩ := HRZ.out 0 hk0
    have hcz : w1.cell? ⟨bz, oz, none⟩ = some (.int .i64 0) := by
      rw [Nat.add_zero] at hcz
      rw [hcz]
      unfold IVal
      rw [getD_lt (by simpa using hk0)]
      simp
    go_wp2_with fail
    refine (C8.out _).mono ?_
    rintro e w' ⟨rfl, rfl⟩
    go_wp2_with fail
    refine CFZ.out.mono ?_
    rintro e w' ⟨rfl, rfl⟩
    go_wp2_with fail
    refine (C10.out _ (Up.refl _)).mono ?_
    rintro e w2 ⟨rfl, hu⟩
    have HU := Lib.hid hu
    clear hu hcz
    go_wp2_with fail
    refine (C11.out _ HU.out).mono ?_
    clear HU
    rintro e w2 ⟨rfl, hu⟩
    have HU := Lib.hid hu
    clear hu
    go_wp2_with fail
    refine (C12.out _ HU.out).mono ?_
    clear HU
    rintro e w2 ⟨rfl, hu⟩
    have HU := Lib.hid hu
    clear hu
    go_wp2_with fail
    refine (C13.out _ HU.out).mono ?_
    clear HU
    rintro e w2 ⟨rfl, hu⟩
    have HU := Lib.hid hu
    clear hu
    go_wp2_with fail
    refine (C9.out _ HU.out).mono ?_
    clear HU
    rintro e w2 ⟨rfl, hu⟩
    have HU := Lib.hid hu
    clear hu
    go_wp2_with fail
    refine (C14.out _ HU.out).mono ?_
    clear HU
    rintro e w2 ⟨rfl, hu⟩
    have HU := Lib.hid hu
    clear hu
    go_wp2_with fail
    refine (C15.out _ HU.out).mono ?_
    clear HU
    rintro e w2 ⟨rfl, hu⟩
    have HU := Lib.hid hu
    clear hu
    go_wp2_with fail
    refine (C16.out _ HU.out).mono ?_
    clear HU
    rintro e w2 ⟨rfl, hu⟩
    have HU := Lib.hid hu
    clear hu
    go_wp2_with fail
    refine (C17.out _ HU.out).mono ?_
    clear HU
    rintro e w2 ⟨rfl, hu⟩
    have HU := Lib.hid hu
    clear hu
    go_wp2_with fail
    refine (C18.out _ HU.out).mono ?_
    clear HU
    rintro e w2 ⟨rfl, hu⟩
    have HU := Lib.hid hu
    clear hu
    go_wp2_with fail
    refine (C6.out _ HU.out).mono ?_
    clear HU
    rintro e w2 ⟨rfl, hu⟩
    have HU := Lib.hid hu
    clear hu
    go_wp2_with fail
    go_ret
    exact ⟨rfl, HU1.out.trans HU.out⟩
  · obtain rfl : k = 0 := by omega
    go_wp2_with fail
    refine (C8.out _).mono ?_
    rintro e w' ⟨rfl, rfl⟩
    go_wp2_with fail
    refine CFZ.out.mono ?_
    rintro e w' ⟨rfl, rfl⟩
    go_wp2_with fail
    refine (C10.out _ (Up.refl _)).mono ?_
    rintro e w2 ⟨rfl, hu⟩
    have HU := Lib.hid hu
    clear hu
    go_wp2_with fail
    refine (C11.out _ HU.out).mono ?_
    clear HU
    rintro e w2 ⟨rfl, hu⟩
    have HU := Lib.hid hu
    clear hu
    go_wp2_with fail
    refine (C12.out _ HU.out).mono ?_
    clear HU
    rintro e w2 ⟨rfl, hu⟩
    have HU := Lib.hid hu
    clear hu
    go_wp2_with fail
    refine (C13.out _ HU.out).mono ?_
    clear HU
    rintro e w2 ⟨rfl, hu⟩
    have HU := Lib.hid hu
    clear hu
    go_wp2_with fail
    refine (C9.out _ HU.out).mono ?_
    clear HU
    rintro e w2 ⟨rfl, hu⟩
    have HU := Lib.hid hu
    clear hu
    go_wp2_with fail
    refine (C14.out _ HU.out).mono ?_
    clear HU
    rintro e w2 ⟨rfl, hu⟩
    have HU := Lib.hid hu
    clear hu
    go_wp2_with fail
    refine (C15.out _ HU.out).mono ?_
    clear HU
    rintro e w2 ⟨rfl, hu⟩
    have HU := Lib.hid hu
    clear hu
    go_wp2_with fail
    refine (C16.out _ HU.out).mono ?_
    clear HU
    rintro e w2 ⟨rfl, hu⟩
    have HU := Lib.hid hu
    clear hu
    go_wp2_with fail
    refine (C17.out _ HU.out).mono ?_
    clear HU
    rintro e w2 ⟨rfl, hu⟩
    have HU := Lib.hid hu
    clear hu
    go_wp2_with fail
    refine (C18.out _ HU.out).mono ?_
    clear HU
    rintro e w2 ⟨rfl, hu⟩
    have HU := Lib.hid hu
    clear hu
    go_wp2_with fail
    refine (C6.out _ HU.out).mono ?_
    clear HU
    rintro e w2 ⟨rfl, hu⟩
    have HU := Lib.hid hu
    clear hu
    go_wp2_with fail
    go_ret
    exact ⟨rfl, HU1.out.trans HU.out⟩

theorem tells_any (a b : List Int) (A B : Option Addr) (c d : Nat) (x y : Int) (w : World) (hr : Ring w) (ha : a.length ≤ 9223372036854775807) (hb : b.length ≤ 9223372036854775807) (hac : a.length ≤ c) (hbd : b.length ≤ d) (hc : c ≤ 9223372036854775807) (hd : d ≤ 9223372036854775807)
    (hra : Row w A a.length (IVal a)) (hrb : Row w B b.length (IVal b)) :
    Calls Tryd.prog 3 #[.slice A a.length c, .slice B b.length d, .int .i64 x, .int .i64 y] w fun e w' => e = .returned (.bool true) ∧ Up w w' := by
  by_cases h : 40 < a.length ∨ 40 < b.length
  · exact tells_long _ _ A B c d x y w hr h
  · exact tells_short a b A B c d x y w hr (by omega) (by omega) hac hbd hc hd hra hrb

end Go.Proofs.YtaplhooapgfdgaaDoor
