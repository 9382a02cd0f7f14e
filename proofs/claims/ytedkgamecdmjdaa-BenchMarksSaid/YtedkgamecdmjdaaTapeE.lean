/-
  slices.Clone of a slice of ints; tape.Short.
-/
import Derived.Test.YtedkgamecdmjdaaTapeD
import Derived.Test.YtedkgamecdmjdaaApp
set_option linter.unusedVariables false
set_option linter.unusedSimpArgs false
namespace Go.Proofs.Ytedkgamecdmjdaa
open Go.RowKit

theorem range_ival (l : List Int) : (List.range l.length).map (IVal l) = icells l := by
  apply List.ext_getElem
  · simp [icells]
  · intro i h1 h2
    simp at h1
    simp only [List.getElem_map, List.getElem_range]
    have := iVal_map h1
    unfold icells at h2 ⊢
    rw [List.getElem?_eq_getElem h2] at this
    exact (Option.some.inj this).symm
theorem icells_one (l : List Int) : ∀ u ∈ icells l, u.oneCell' = true := by
  intro u hu
  unfold icells at hu
  obtain ⟨c, _, rfl⟩ := List.mem_map.1 hu
  rfl
theorem row_none {w : World} {n : Nat} {f : Nat → Value} (h : Row w none n f) : n = 0 := by
  rcases Nat.eq_zero_or_pos n with h0 | h0
  · exact h0
  · obtain ⟨b, off, e, _⟩ := h 0 h0
    cases e

set_option maxRecDepth 10000 in
set_option maxHeartbeats 1000000 in
theorem clone_any (l : List Int) (A : Option Addr) (c : Nat) (w : World) (hA : A = none → c = 0) (hr : Row w A l.length (IVal l)) (hb : l.length ≤ 1000000) :
    Calls Try.prog 26 #[.slice A l.length c] w fun e w' => ∃ v, e = .returned v ∧ w'.ownsRow w.heap.size 3 1 v l.length (icells l) ∧ Up w w' := by
  have hnil := fun W : World => Lib.run_eql_slice_nil (P := Try.prog) W 43 3 A l.length c 0 0 Try.underlying43
  cases A with
  | none =>
    obtain rfl := List.eq_nil_of_length_eq_zero (row_none hr)
    have hc := hA rfl
    subst hc
    clear hr hA hb
    show Calls Try.prog 26 #[.slice none 0 0] w fun e w' => ∃ v, e = .returned v ∧ w'.ownsRow w.heap.size 3 1 v 0 [] ∧ Up w w'
    simp only [List.length_nil] at hnil
    go_enter Try.func26, Try.ntmps26
    go_wp2_with fail
    go_ret
    exact ⟨_, rfl, World.ownsRow_nil _ _ _ _, Up.refl _⟩
  | some ad =>
    obtain ⟨i0, hi, hz0, hz1, hz2⟩ := info_parts infoInt
    have HI := Lib.hid hi
    have HZ0 := Lib.hid hz0
    have HZ1 := Lib.hid hz1
    have HZ2 := Lib.hid hz2
    have HR := Lib.hid hr
    have HB := Lib.hid hb
    have HRI := Lib.hid (range_ival l)
    have H1 := Lib.hid (show ∀ u ∈ (List.range l.length).map (IVal l), u.oneCell' = true by rw [HRI.out]; exact icells_one l)
    obtain ⟨n, hn⟩ : ∃ n, l.length = n := ⟨_, rfl⟩
    rw [hn] at HR HB HRI H1 hnil ⊢
    clear hi hz0 hz1 hz2 hr hA hb hn
    go_enter Try.func26, Try.ntmps26
    go_wp2_with (at_builtin; refine wpList_appendRow rfl (.tmp 5) (.tmp 6) 43 rfl w.heap.size 3 i0 (.int .i64 0) 8 Try.underlying43 HI.out HZ0.out HZ1.out HZ2.out rfl _ 0 [] rfl ?_ (some ad) n c (IVal l) rfl (fun h => by cases h) ?_ H1.out (by decide) (by have := HB.out; omega) ?_ ?_)
    case _ => exact own_empty w 3
    case _ => exact HR.out.up ((Up.refl w).alloc _)
    case _ => simp
    · intro v1 w1 hown1 hg hbel
      rw [HRI.out] at hown1
      have HO := Lib.hid hown1
      have HU := Lib.hid (show Up w w1 from Below.trans ((Up.refl w).alloc _) hbel)
      clear hown1 hg hbel
      go_wp2_with fail
      go_ret
      exact ⟨_, rfl, HO.out, HU.out⟩

def shortLen (l : List Int) : Nat → Nat
  | 0 => 0
  | n + 1 => if l.getD n 0 = 0 then shortLen l n else n + 1
def shortL (l : List Int) : List Int := l.take (shortLen l l.length)
theorem shortLen_le (l : List Int) : ∀ n, shortLen l n ≤ n
  | 0 => Nat.le_refl _
  | n + 1 => by
    unfold shortLen
    split
    · exact Nat.le_trans (shortLen_le l n) (by omega)
    · exact Nat.le_refl _
theorem shortL_length (l : List Int) : (shortL l).length = shortLen l l.length := by
  unfold shortL
  rw [List.length_take]
  have := shortLen_le l l.length
  omega

theorem row_takeI {w : World} {A : Option Addr} {n k : Nat} {l : List Int} (h : Row w A n (IVal l)) (hk : k ≤ n) : Row w A k (IVal (l.take k)) := fun j hj => by
  obtain ⟨b, off, e, hc⟩ := h j (by omega)
  refine ⟨b, off, e, ?_⟩
  rw [hc]
  unfold IVal
  rw [List.getD_eq_getElem?_getD, List.getD_eq_getElem?_getD, List.getElem?_take, if_pos hj]

set_option maxRecDepth 10000 in
set_option maxHeartbeats 1000000 in
theorem short_any (l : List Int) (A : Option Addr) (c : Nat) (w : World) (hA : A = none → c = 0) (hr : Row w A l.length (IVal l)) (hb : l.length ≤ 1000000) (hcl : l.length ≤ c) :
    Calls Try.prog 41 #[.slice A l.length c] w fun e w' => ∃ v, e = .returned v ∧ w'.ownsRow w.heap.size 3 1 v (shortL l).length (icells (shortL l)) ∧ Up w w' := by
  have HR := Lib.hid hr
  have HC := Lib.hid (fun (k : Nat) (hk : k ≤ l.length) => show k = shortLen l l.length → Calls Try.prog 26 #[.slice A k c] w fun e w' => ∃ v, e = .returned v ∧ w'.ownsRow w.heap.size 3 1 v (shortL l).length (icells (shortL l)) ∧ Up w w' from fun h => by
    have h2 := clone_any (l.take k) A c w hA (by rw [List.length_take, Nat.min_eq_left hk]; exact row_takeI hr hk) (by rw [List.length_take]; omega)
    rw [List.length_take, Nat.min_eq_left hk] at h2
    have h3 : shortL l = l.take k := by unfold shortL; rw [h]
    rw [h3, List.length_take, Nat.min_eq_left hk]
    exact h2)
  have HS := Lib.hid (show ∀ k, k < l.length → l.getD k 0 = 0 → shortLen l (k + 1) = shortLen l k from fun k _ h => by show (if l.getD k 0 = 0 then shortLen l k else k + 1) = _; rw [if_pos h])
  have HS2 := Lib.hid (show ∀ k, k < l.length → ¬ l.getD k 0 = 0 → shortLen l (k + 1) = k + 1 from fun k _ h => by show (if l.getD k 0 = 0 then shortLen l k else k + 1) = _; rw [if_neg h])
  have HS0 := Lib.hid (show shortLen l 0 = 0 from rfl)
  obtain ⟨n, hn⟩ : ∃ n, l.length = n := ⟨_, rfl⟩
  rw [hn] at HR hb hcl HC HS HS2 ⊢
  clear hr hn hA
  go_enter Try.func41, Try.ntmps41
  go_wp2_with fail
  go_loop [3] (fun t => ∃ k : Nat, k ≤ n ∧ t = .int .i64 k ∧ Hid (shortLen l k = shortLen l n)) (fun t => (intOf t).toNat)
  case atStart => exact ⟨n, Nat.le_refl _, rfl, Lib.hid rfl⟩
  case round =>
    obtain ⟨k, hk, rfl, HK⟩ := hrel
    cases k with
    | zero =>
      have HCC := Lib.hid (HC.out 0 hk (by rw [← HK.out]; exact HS0.out.symm))
      go_wp2_with fail
      refine HCC.out.mono ?_
      rintro e w1 ⟨v, rfl, h1, h2⟩
      have H1 := Lib.hid h1
      have H2 := Lib.hid h2
      clear h1 h2
      go_wp2_with fail
      go_ret
      exact ⟨_, rfl, H1.out, H2.out⟩
    | succ k =>
      obtain ⟨b, off, rfl, hcell⟩ := HR.out k (by omega)
      unfold IVal at hcell
      have HSk := Lib.hid (HS.out k (by omega))
      have HSk2 := Lib.hid (HS2.out k (by omega))
      generalize l.getD k 0 = x at *
      have e1 : ((k + 1 : Nat) : Int) = (k : Int) + 1 := by omega
      by_cases hx : x = 0
      · subst hx
        have HX := Lib.hid ((HSk.out rfl).symm.trans HK.out)
        have hin : (k : Int) < (n : Int) := by omega
        go_wp2_with fail
        exact ⟨⟨k, by omega, rfl, HX⟩, by simp [intOf]⟩
      · have hx0 : (x == 0) = false := by simpa using hx
        have HCC := Lib.hid (HC.out (k + 1) hk (by rw [← HK.out]; exact (HSk2.out hx).symm))
        go_wp2_with fail
        refine HCC.out.mono ?_
        rintro e w1 ⟨v, rfl, h1, h2⟩
        have H1 := Lib.hid h1
        have H2 := Lib.hid h2
        clear h1 h2
        go_wp2_with fail
        go_ret
        exact ⟨_, rfl, H1.out, H2.out⟩

end Go.Proofs.Ytedkgamecdmjdaa
