/-
  Package wire: the walks of Num where it reads, Clone, NewReader and Put.
-/
import Derived.Test.YtjbphkcbfhhgbaaWireB
set_option linter.unusedVariables false
set_option linter.unusedSimpArgs false
namespace Go.Proofs.Ytjbphkcbfhhgbaa
open Go.RowKit

def NumOk (g x k n b off : Nat) (w : World) (e : Ending) (w' : World) : Prop :=
  ∃ A' c', e = .returned (.int .i64 x) ∧ w' = w.setCell ⟨g, 1, none⟩ (.slice A' (n - k) c') ∧ n - k ≤ c' ∧ c' ≤ 9223372036854775807 ∧ (k < n → A' = some ⟨b, off + k, none⟩)

set_option maxHeartbeats 1000000 in
theorem num_ok (g : Nat) (m : Int) (l : List UInt8) (b off c x k : Nat) (w : World) (hR : Rd w g 0 (some ⟨b, off, none⟩) l.length c) (hc : l.length ≤ c) (hm : c ≤ 9223372036854775807) (hrow : Row w (some ⟨b, off, none⟩) l.length (BVal l))
    (hr : numL 0 0 l = (x, k, 0)) (hx1 : (x : Int) ≤ m) (hx2 : x ≤ 1073741823) :
    Calls Try.prog 12 #[.pointer (some ⟨g, 0, none⟩), .int .i64 m] w fun e w' => NumOk g x k l.length b off w e w' := by
  obtain ⟨h0, h1, f0, f1⟩ := hR
  have C := Lib.hid (fun w hc => blamed_any g 0 w hc)
  have cn := number_any l (some ⟨b, off, none⟩) c w (by omega) hrow
  obtain ⟨k1, k5, kn⟩ := numL_ok l 0 0 x k (by decide) hr
  rw [hr] at cn
  simp only at cn
  have CN := Lib.hid cn
  have hkn : k ≤ l.length := by omega
  generalize l.length = n at *
  clear hrow hr cn kn
  have hgm : ¬ m < (x : Int) := by omega
  have hgb : ¬ (1073741823 : Int) < (x : Int) := by omega
  by_cases hck : c = k
  · subst hck
    obtain rfl : n = c := by omega
    go_enter Try.func12, Try.ntmps12
    go_wp2_with fail
    refine (C.out _ h0).mono ?_
    rintro e w' ⟨rfl, rfl⟩
    go_wp2_with fail
    refine CN.out.mono ?_
    rintro e w' ⟨rfl, rfl⟩
    go_wp2_with fail
    go_ret
    exact ⟨_, _, rfl, by rw [Nat.sub_self], by omega, by omega, fun h => absurd h (by omega)⟩
  · have ic : (n : Int) ≤ (c : Int) := by omega
    go_enter Try.func12, Try.ntmps12
    go_wp2_with fail
    refine (C.out _ h0).mono ?_
    rintro e w' ⟨rfl, rfl⟩
    go_wp2_with fail
    refine CN.out.mono ?_
    rintro e w' ⟨rfl, rfl⟩
    go_wp2_with fail
    go_ret
    exact ⟨_, _, rfl, rfl, by omega, by omega, fun _ => rfl⟩

theorem infoB : (Try.prog.info? 5).map (fun i => (i.zero, i.size, i.bytes)) = some (some (.int .u8 0), 1, 1) := by kernel_rfl

def OwnB (l : List UInt8) (w : World) (e : Ending) (w' : World) : Prop := ∃ v, e = .returned v ∧ w'.ownsRow w.heap.size 5 1 v l.length (bcells l) ∧ Below w.heap.size w w'

theorem clone_any (l : List UInt8) (A : Option Addr) (c : Nat) (w : World) (hA : A = none → c = 0) (hm : l.length ≤ 140737488355328) (hrow : Row w A l.length (BVal l)) :
    Calls Try.prog 19 #[.slice A l.length c] w fun e w' => OwnB l w e w' := by
  have hnil := fun W : World => Lib.run_eql_slice_nil (P := Try.prog) W 22 5 A l.length c 0 0 Try.underlying22
  cases A with
  | none =>
    obtain rfl : c = 0 := hA rfl
    have hl : l = [] := by
      cases l with
      | nil => rfl
      | cons x l => obtain ⟨b, off, he, _⟩ := hrow 0 (by simp); cases he
    subst hl
    have hnil2 := fun W : World => Lib.run_eql_slice_nil (P := Try.prog) W 22 5 none 0 0 0 0 Try.underlying22
    simp only [List.length_nil]
    clear hrow hA hnil
    go_enter Try.func19, Try.ntmps19
    go_wp2_with fail
    go_ret
    exact ⟨_, rfl, own_nil _ _ _ _, Below.refl _ _⟩
  | some ad =>
    obtain ⟨i0, hi, hz0, hz1, hz2⟩ := info_parts infoB
    have HI := Lib.hid hi
    have HZ0 := Lib.hid hz0
    have HZ1 := Lib.hid hz1
    have HZ2 := Lib.hid hz2
    have HR := Lib.hid (show Row (w.alloc (.cells #[] 5)) (some ad) l.length (BVal l) from Row.up hrow ((Up.refl w).alloc _))
    have hl2 := range_bval l
    have HL2 := Lib.hid hl2
    have HO := Lib.hid (own_empty w 5)
    obtain ⟨n, hn⟩ : ∃ n, l.length = n := ⟨_, rfl⟩
    rw [hn] at hm HR HL2 hnil ⊢
    have HN := Lib.hid hn
    have HLEN := Lib.hid (show (0 + n) * 1 ≤ 140737488355328 by omega)
    have H1 := Lib.hid (show ∀ u ∈ (List.range n).map (BVal l), u.oneCell' = true by rw [HL2.out]; exact bval_one l)
    clear hi hz0 hz1 hz2 hrow hl2 hn hA
    go_enter Try.func19, Try.ntmps19
    go_wp2_with (at_builtin; go_loud (refine wpList_appendRow rfl _ _ 22 rfl w.heap.size 5 i0 _ 1 Try.underlying22 HI.out HZ0.out HZ1.out HZ2.out rfl _ _ _ rfl HO.out _ _ _ (BVal l) rfl (fun h => by cases h) HR.out H1.out (by decide) HLEN.out (by simp) ?_); intro v' w1 hown' _ hb')
    rw [HL2.out] at hown'
    have HO2 := Lib.hid hown'
    have HW2 := Lib.hid (((Below.refl w.heap.size w).alloc (Nat.le_refl _) (.cells #[] 5)).trans hb')
    clear hown' hb' HR HO
    go_wp2_with fail
    go_ret
    refine ⟨_, rfl, ?_, HW2.out⟩
    have := HO2.out
    rw [HN.out]
    simpa using this

/-- A new Reader over these bytes. -/
def NewRd (l : List UInt8) (w : World) (e : Ending) (w' : World) : Prop :=
  ∃ g A c, e = .returned (.pointer (some ⟨g, 0, none⟩)) ∧ Rd w' g 0 A l.length c ∧ Row w' A l.length (BVal l) ∧ l.length ≤ c ∧ c ≤ 9223372036854775807 ∧ w.heap.size ≤ g ∧ g < w'.heap.size ∧
    (∀ b off, A = some ⟨b, off, none⟩ → w.heap.size ≤ b ∧ b < w'.heap.size ∧ b ≠ g) ∧ Below w.heap.size w w'

theorem own_cap {w : World} {B n c : Nat} {e : TypeId} {A : Option Addr} {xs : List Value} (h : w.ownsRow B e 1 (.slice A n c) n xs) : c ≤ 9223372036854775807 := by
  rcases h.2 with ⟨h, _⟩ | ⟨g, cap, cur, h, _, _, _, hm, _⟩
  · injection h with _ _ h; omega
  · injection h with _ _ h; subst h; exact hm

theorem newReader_any (l : List UInt8) (A : Option Addr) (c : Nat) (w : World) (hA : A = none → c = 0) (hm : l.length ≤ 140737488355328) (hrow : Row w A l.length (BVal l)) :
    Calls Try.prog 11 #[.slice A l.length c] w fun e w' => NewRd l w e w' := by
  have C := Lib.hid (clone_any l A c w hA hm hrow)
  obtain ⟨n, hn⟩ : ∃ n, l.length = n := ⟨_, rfl⟩
  rw [hn] at C ⊢
  have HN := Lib.hid hn
  clear hn hrow hA hm
  go_enter Try.func11, Try.ntmps11
  go_wp2_with fail
  refine C.out.mono ?_
  rintro e w1 ⟨v, rfl, hown, hb⟩
  have hlt := hown.lt
  obtain ⟨A', c', rfl, hr, hc⟩ := own_bytes hown
  have HCAP := Lib.hid (own_cap hown)
  have HLT := Lib.hid hlt
  have HR := Lib.hid hr
  have HB := Lib.hid hb
  have HC := Lib.hid hc
  clear hown hr hb hc hlt
  go_wp2_with fail
  go_ret
  refine ⟨w1.heap.size, A', c', rfl, ⟨?_, ?_, ?_, ?_⟩, ?_, HC.out, HCAP.out, HB.out.size, by simp, ?_, HB.out.alloc HB.out.size _⟩
  · simp [World.cell?_alloc_at]
  · simp [World.cell?_alloc_at]
  · exact World.frozen?_alloc_at _ _ _ _ rfl
  · exact World.frozen?_alloc_at _ _ _ _ rfl
  · exact Row.up HR.out ((Up.refl w1).alloc _)
  · intro b off he
    subst he
    have := HLT.out b rfl
    exact ⟨this.1, by simp; omega, by omega⟩

end Go.Proofs.Ytjbphkcbfhhgbaa
